/- The keys of a map of the call's own, sorted. -/
import Derived.Test.YtofiblkeihchmaaMapF
import Derived.Test.YtofiblkeihchmaaLayI
import Derived.Shelf.SlIterI.Sorted
import Derived.Shelf.SortM.Plain
import Derived.Shelf.SortM.SortNone
import Derived.WideKeyElems
set_option linter.unusedVariables false
set_option linter.unusedSimpArgs false
namespace Go.Proofs.Ytofiblkeihchmaa.Keys
open Go Go.Proofs Go.RowKit Go.Shelf Go.Proofs.Ytofiblkeihchmaa.Maps Go.MapKept
open Go.WideElems (Fit rd rg pl)
abbrev FV := Int → Option Value
/-- The keys, rising. -/
def keysL (f : FV) : List Int := ((List.range 1024).filter fun k => (f (k : Nat)).isSome).map fun k => ((k : Nat) : Int)
def Small (f : FV) : Prop := ∀ x, (f x).isSome = true → 0 ≤ x ∧ x < 1024
theorem keysL_mem {f : FV} (h : Small f) (x : Int) : x ∈ keysL f ↔ (f x).isSome = true := by
  unfold keysL
  simp only [List.mem_map, List.mem_filter, List.mem_range]
  constructor
  · rintro ⟨k, ⟨_, hk⟩, rfl⟩; exact hk
  · intro hx
    obtain ⟨h0, h1⟩ := h x hx
    refine ⟨x.toNat, ⟨by omega, ?_⟩, by omega⟩
    rw [show ((x.toNat : Nat) : Int) = x by omega]
    exact hx
theorem keysL_lt (f : FV) : (keysL f).Pairwise (· < ·) := by
  unfold keysL
  refine List.pairwise_map.2 ?_
  refine (List.pairwise_lt_range.sublist List.filter_sublist).imp ?_
  intro a b h
  exact Int.ofNat_lt.2 h
theorem keysL_nodup (f : FV) : (keysL f).Nodup := (keysL_lt f).imp fun h => Int.ne_of_lt h
theorem sorted_keys {f : FV} {ss : List Int} (h : ss.Perm (keysL f)) : ss.mergeSort (fun x y => decide (x ≤ y)) = keysL f := by
  have tr : ∀ a b c : Int, decide (a ≤ b) = true → decide (b ≤ c) = true → decide (a ≤ c) = true := fun a b c h1 h2 => by simp only [decide_eq_true_eq] at *; exact Int.le_trans h1 h2
  have to : ∀ a b : Int, (decide (a ≤ b) || decide (b ≤ a)) = true := fun a b => by simp only [Bool.or_eq_true, decide_eq_true_eq]; exact Int.le_total a b
  refine List.Perm.eq_of_pairwise (le := fun a b => decide (a ≤ b) = true) (fun a b _ _ h1 h2 => ?_) (List.pairwise_mergeSort tr to ss) ((keysL_lt f).imp fun h => decide_eq_true (Int.le_of_lt h)) ((List.mergeSort_perm ss _).trans h)
  simp only [decide_eq_true_eq] at h1 h2
  exact Int.le_antisymm h1 h2
theorem insert_perm {H : Type} (x : Lit × DataW H) : ∀ l : List (Lit × DataW H), (DataW.insert x l).Perm (x :: l)
  | [] => List.Perm.refl _
  | y :: r => by
    unfold DataW.insert
    split
    · exact List.Perm.refl _
    · exact ((insert_perm x r).cons y).trans (List.Perm.swap x y r)
theorem sort_perm {H : Type} : ∀ l : List (Lit × DataW H), (l.foldr DataW.insert []).Perm l
  | [] => List.Perm.refl _
  | x :: r => (insert_perm x _).trans ((sort_perm r).cons x)
def R0 : Value → Option (DataW Unit × List MemPlace) := fun _ => some (.nil, [])
theorem mget_some {l : List (Int × Value)} : ∀ (hn : (l.map (·.1)).Nodup) (x : Int), x ∈ l.map (·.1) ↔ (mget l x).isSome = true := by
  induction l with
  | nil => intro _ x; simp [mget]
  | cons p l ih =>
    intro hn x
    rw [List.map_cons, List.nodup_cons] at hn
    simp only [List.map_cons, List.mem_cons, mget]
    by_cases c : p.1 = x
    · rw [if_pos c]; simp [c]
    · rw [if_neg c, ← ih hn.2 x]
      constructor
      · rintro (h | h)
        · exact absurd h.symm c
        · exact h
      · exact .inr
theorem list_keys {w : World} {b : Nat} {f : FV} {es : Array MapEntry} {clock : Nat} {l : List (Int × Value)} (h4 : (l.map (·.1)).Nodup) (h5 : ∀ k, mget l k = f k) (hs : Small f) : (l.map (·.1)).Perm (keysL f) := by
  refine (List.perm_ext_iff_of_nodup h4 (keysL_nodup f)).2 fun x => ?_
  rw [mget_some h4 x, h5, keysL_mem hs]
theorem keysL_length (f : FV) : (keysL f).length ≤ 1024 := by
  unfold keysL
  rw [List.length_map]
  exact Nat.le_trans (List.length_filter_le _ _) (by rw [List.length_range]; exact Nat.le_refl _)
/-- A map as functions of its keys, in the words of the shelf. -/
theorem owns {P : Program} {k : TypeId} (hk : P.underlying k = some (.int .i64)) {w : World} {b : Nat} {f : FV} (h : MapF w (Value.int .i64) b f) (hs : Small f) :
    ∃ D nn, w.ownsMap P k R0 b nn D ∧ (∀ ss : List Int, ss.Perm (intKeys D) → ss.Perm (keysL f)) ∧ Maps.size D ≤ 1024 := by
  obtain ⟨es, clock, l, h1, h2, h3, h4, h5⟩ := h
  have hp := list_keys (w := w) (b := b) (es := es) (clock := clock) h4 h5 hs
  have hlen : es.toList.length = l.length := by have := congrArg List.length h3; simpa using this
  have hl : l.length ≤ 1024 := by have := hp.length_eq; rw [List.length_map] at this; rw [this]; exact keysL_length f
  have hkeys : es.toList.map (·.key) = (l.map (·.1)).map (Value.int .i64) := by
    have := congrArg (List.map Prod.fst) h3
    rw [List.map_map, List.map_map] at this
    rw [List.map_map]
    exact this
  have hread : ∀ x ∈ es.toList, ∃ z : Int, z ∈ l.map (·.1) ∧ x.key = .int .i64 z ∧ keyOf P k x.key = some (.int .i64 z) := by
    intro x hx
    have : x.key ∈ es.toList.map (·.key) := List.mem_map_of_mem hx
    rw [hkeys] at this
    obtain ⟨z, hz, e⟩ := List.mem_map.1 this
    refine ⟨z, hz, e.symm, ?_⟩
    have hz2 := hs z (by rw [← keysL_mem hs]; exact hp.mem_iff.1 hz)
    rw [← e]
    have hw : (Lit.int .i64 z).wf = true := by simp [Lit.wf, IntKind.min, IntKind.max, IntKind.signed, IntKind.bits]; omega
    simp [keyOf, hk, mapKey, hw]
  have hrd : ∀ x ∈ es.toList, ∃ z : Int, rd P k R0 x = some (.int .i64 z, .nil) ∧ x.key = .int .i64 z := by
    intro x hx
    obtain ⟨z, _, e, hz⟩ := hread x hx
    exact ⟨z, by unfold rd; rw [hz]; rfl, e⟩
  have hint : intKeys (.map ((es.toList.map (rg P k R0)).foldr DataW.insert [])) = ((es.toList.map (rg P k R0)).foldr DataW.insert []).map fun p => Go.intOf p.1 := rfl
  refine ⟨.map ((es.toList.map (rg P k R0)).foldr DataW.insert []), es.size, ⟨es, clock, h1, ⟨?_, ⟨h2.1, h2.2, ?_⟩, fun x hx => ?_⟩, Nat.le_refl _, rfl⟩, fun ss hss => ?_, ?_⟩
  · have : es.size = l.length := by simpa using hlen
    rw [this]; unfold maxLen; omega
  · rw [hkeys]
    refine List.pairwise_map.2 (h4.imp ?_)
    intro a b hab e
    exact hab (by simpa using e)
  · obtain ⟨z, hz, _⟩ := hrd x hx
    exact ⟨_, hz⟩
  · refine hss.trans ?_
    rw [hint]
    refine ((sort_perm _).map _).trans ?_
    rw [List.map_map]
    have e : es.toList.map ((fun p : Lit × DataW Unit => Go.intOf p.1) ∘ rg P k R0) = l.map (·.1) := by
      have e2 : (es.toList.map ((fun p : Lit × DataW Unit => Go.intOf p.1) ∘ rg P k R0)).map (Value.int .i64) = (l.map (·.1)).map (Value.int .i64) := by
        rw [← hkeys, List.map_map]
        refine List.map_congr_left fun x hx => ?_
        obtain ⟨z, hz, hk2⟩ := hrd x hx
        show Value.int .i64 (Go.intOf (rg P k R0 x).1) = x.key
        unfold rg
        rw [hz, hk2]
        rfl
      exact (List.map_inj_right (fun a b h => by simpa using h)).1 e2
    rw [e]
    exact hp
  · show ((es.toList.map (rg P k R0)).foldr DataW.insert []).length ≤ 1024
    rw [(sort_perm _).length_eq, List.length_map, hlen]
    exact hl
theorem sort_int (n : Nat) (blk off cap : Nat) (ss : List Int) (W : World) (h : Sort.Holds (Value.int .i64) W blk off ss.toArray) (h1 : blk < W.heap.size) (h2 : ss.length < 4611686018427387904) :
    CallsIn Fence.wide n Try.prog 25 #[.slice (some ⟨blk, off, none⟩) ss.length cap] W fun e w' => e = .returned (.tuple #[]) ∧ ∃ k os, w' = Go.Sort.grow (Go.Sort.putRow (Value.int .i64) (Go.Sort.ahead W k) blk off (ss.mergeSort fun x y => decide (x ≤ y)).toArray) os :=
  callsIn_wide.2 (AnyM.slices_Sort_int LayI.sortInt blk off cap ss W h h1 h2)
theorem sort_none (n : Nat) (p : Option Addr) (cap : Nat) (W : World) : CallsIn Fence.wide n Try.prog 25 #[.slice p 0 cap] W fun e w' => e = .returned (.tuple #[]) ∧ w' = W :=
  callsIn_wide.2 (AnyM.slices_Sort_int_none LayI.sortInt p cap W)
theorem keys_calls (mb : Option Nat) (w : World) : Calls Try.prog 18 #[.map mb] w fun e w' => e = .returned (.func (.func 26) #[] #[.pointer (some ⟨w.heap.size, 0, none⟩)]) ∧ w' = w.alloc (.cells #[.map mb] 45) :=
  callsIn_wide.1 (AnyZI.keys_in LayI.iKeys Fence.wide 5 trivial rfl mb w)
theorem sorted_calls (w : World) (b Bm : Nat) (f : FV) (h : MapF w (Value.int .i64) b f) (hs : Small f) (hm : w.cell? ⟨Bm, 0, none⟩ = some (.map (some b))) (hBm : Bm < w.heap.size) :
    Calls Try.prog 17 #[.func (.func 26) #[] #[.pointer (some ⟨Bm, 0, none⟩)]] w fun e w' => ∃ v, e = .returned v ∧ w'.ownsRow w.heap.size 3 1 v (keysL f).length ((keysL f).map (Value.int .i64)) ∧ Below w.heap.size w w' := by
  obtain ⟨D, nn, hown, hp, hD⟩ := owns Try.underlying3 h hs
  refine callsIn_wide.1 ((AnyZI.sorted_in LayI.iSorted Fence.wide 6 trivial trivial trivial trivial rfl (by omega) ⟨fun blk off cap ss W h1 h2 h3 => sort_int 5 blk off cap ss W h1 h2 h3, fun p cap W => sort_none 5 p cap W⟩ (enters_of Try.func25 (by kernel_rfl) rfl) 26 #[.pointer (some ⟨Bm, 0, none⟩)] trivial (enters_of Try.func26 (by kernel_rfl) rfl) (fun ss => ss.Perm (intKeys D)) (Maps.size D) (by unfold maxLen; omega) (by omega) w (AnyZI.keys_gives LayI.iKeys1 Fence.wide 3 trivial rfl (by omega) Bm b nn D w hBm hm hown)).mono ?_)
  rintro e w' ⟨v, ss, rfl, hS, hrow, _, hb⟩
  have hS2 := hp ss hS
  refine ⟨v, rfl, ?_, hb⟩
  rw [sorted_keys hS2] at hrow
  rw [← hS2.length_eq]
  exact hrow
end Go.Proofs.Ytofiblkeihchmaa.Keys
