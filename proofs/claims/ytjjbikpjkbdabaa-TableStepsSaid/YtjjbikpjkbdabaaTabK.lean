/- The clients of a table, rising; rows of whole numbers compared. -/
import Derived.Test.YtjjbikpjkbdabaaRTabB
import Derived.Test.YtjjbikpjkbdabaaLayI
import Derived.Shelf.SlIterI.Sorted
import Derived.Shelf.SortM.Plain
import Derived.Shelf.SortM.SortNone
import Derived.WideKeyElems
set_option linter.unusedVariables false
set_option linter.unusedSimpArgs false
namespace Go.Proofs.Ytjjbikpjkbdabaa.TabK
open Go Go.Proofs Go.RowKit Go.Shelf Go.Proofs.Ytjjbikpjkbdabaa.Maps Go.MapKept
open Go.WideElems (Fit rd rg pl)
theorem insert_perm {H : Type} (x : Lit × DataW H) : ∀ l : List (Lit × DataW H), (DataW.insert x l).Perm (x :: l)
  | [] => List.Perm.refl _
  | y :: r => by
    unfold DataW.insert
    split
    · exact List.Perm.refl _
    · exact ((insert_perm x r).cons y).trans (List.Perm.swap x y r)
theorem sort_perm {H : Type} : ∀ l : List (Lit × DataW H), (l.foldr DataW.insert []).Perm l
  | [] => List.Perm.refl _
  | x :: r => (insert_perm x _).trans ((sort_perm r).cons x)
def R0 : Value → Option (DataW Unit × List MemPlace) := fun _ => some (.nil, [])
/-- A map of whole numbers, in the words of the shelf. -/
theorem owns {P : Program} {k : TypeId} (hk : P.underlying k = some (.int .i64)) {w : World} {b : Nat} {l : List (Int × Value)} (h : MapIs w (Value.int .i64) b l) (hn : (l.map (·.1)).Nodup) (hw : ∀ x ∈ l.map (·.1), (Lit.int .i64 x).wf = true) (hl : l.length ≤ 1024) :
    ∃ D nn, w.ownsMap P k R0 b nn D ∧ (∀ ss : List Int, ss.Perm (intKeys D) → ss.Perm (l.map (·.1))) ∧ Maps.size D ≤ 1024 ∧ nn = l.length := by
  obtain ⟨es, clock, h1, h3, h2⟩ := h
  have hlen : es.toList.length = l.length := by have := congrArg List.length h3; simpa using this
  have hkeys : es.toList.map (·.key) = (l.map (·.1)).map (Value.int .i64) := by
    have := congrArg (List.map Prod.fst) h3
    rw [List.map_map, List.map_map] at this
    rw [List.map_map]
    exact this
  have hread : ∀ x ∈ es.toList, ∃ z : Int, z ∈ l.map (·.1) ∧ x.key = .int .i64 z ∧ keyOf P k x.key = some (.int .i64 z) := by
    intro x hx
    have : x.key ∈ es.toList.map (·.key) := List.mem_map_of_mem hx
    rw [hkeys] at this
    obtain ⟨z, hz, e⟩ := List.mem_map.1 this
    refine ⟨z, hz, e.symm, ?_⟩
    rw [← e]
    have hw := hw z hz
    simp [keyOf, hk, mapKey, hw]
  have hrd : ∀ x ∈ es.toList, ∃ z : Int, rd P k R0 x = some (.int .i64 z, .nil) ∧ x.key = .int .i64 z := by
    intro x hx
    obtain ⟨z, _, e, hz⟩ := hread x hx
    exact ⟨z, by unfold rd; rw [hz]; rfl, e⟩
  have hint : intKeys (.map ((es.toList.map (rg P k R0)).foldr DataW.insert [])) = ((es.toList.map (rg P k R0)).foldr DataW.insert []).map fun p => Go.intOf p.1 := rfl
  refine ⟨.map ((es.toList.map (rg P k R0)).foldr DataW.insert []), es.size, ⟨es, clock, h1, ⟨?_, ⟨h2.1, h2.2, ?_⟩, fun x hx => ?_⟩, Nat.le_refl _, rfl⟩, fun ss hss => ?_, ?_, by simpa using hlen⟩
  · have : es.size = l.length := by simpa using hlen
    rw [this]; unfold maxLen; omega
  · rw [hkeys]
    refine List.pairwise_map.2 (hn.imp ?_)
    intro a b hab e
    exact hab (by simpa using e)
  · obtain ⟨z, hz, _⟩ := hrd x hx
    exact ⟨_, hz⟩
  · refine hss.trans ?_
    rw [hint]
    refine ((sort_perm _).map _).trans ?_
    rw [List.map_map]
    have e : es.toList.map ((fun p : Lit × DataW Unit => Go.intOf p.1) ∘ rg P k R0) = l.map (·.1) := by
      have e2 : (es.toList.map ((fun p : Lit × DataW Unit => Go.intOf p.1) ∘ rg P k R0)).map (Value.int .i64) = (l.map (·.1)).map (Value.int .i64) := by
        rw [← hkeys, List.map_map]
        refine List.map_congr_left fun x hx => ?_
        obtain ⟨z, hz, hk2⟩ := hrd x hx
        show Value.int .i64 (Go.intOf (rg P k R0 x).1) = x.key
        unfold rg
        rw [hz, hk2]
        rfl
      exact (List.map_inj_right (fun a b h => by simpa using h)).1 e2
    rw [e]
  · show ((es.toList.map (rg P k R0)).foldr DataW.insert []).length ≤ 1024
    rw [(sort_perm _).length_eq, List.length_map, hlen]
    exact hl
theorem sort_int (n : Nat) (blk off cap : Nat) (ss : List Int) (W : World) (h : Sort.Holds (Value.int .i64) W blk off ss.toArray) (h1 : blk < W.heap.size) (h2 : ss.length < 4611686018427387904) :
    CallsIn Fence.wide n Try.prog 29 #[.slice (some ⟨blk, off, none⟩) ss.length cap] W fun e w' => e = .returned (.tuple #[]) ∧ ∃ k os, w' = Go.Sort.grow (Go.Sort.putRow (Value.int .i64) (Go.Sort.ahead W k) blk off (ss.mergeSort fun x y => decide (x ≤ y)).toArray) os :=
  callsIn_wide.2 (AnyM.slices_Sort_int LayI.sortInt blk off cap ss W h h1 h2)
theorem sort_none (n : Nat) (p : Option Addr) (cap : Nat) (W : World) : CallsIn Fence.wide n Try.prog 29 #[.slice p 0 cap] W fun e w' => e = .returned (.tuple #[]) ∧ w' = W :=
  callsIn_wide.2 (AnyM.slices_Sort_int_none LayI.sortInt p cap W)
theorem keys_calls (mb : Option Nat) (w : World) : Calls Try.prog 26 #[.map mb] w fun e w' => e = .returned (.func (.func 30) #[] #[.pointer (some ⟨w.heap.size, 0, none⟩)]) ∧ w' = w.alloc (.cells #[.map mb] 58) :=
  callsIn_wide.1 (AnyZI.keys_in LayI.iKeys Fence.wide 5 trivial rfl mb w)
theorem sorted_calls (w : World) (b Bm : Nat) (l : List (Int × Value)) (h : MapIs w (Value.int .i64) b l) (hn : (l.map (·.1)).Nodup) (hw : ∀ x ∈ l.map (·.1), (Lit.int .i64 x).wf = true) (hl : l.length ≤ 1024) (hm : w.cell? ⟨Bm, 0, none⟩ = some (.map (some b))) (hBm : Bm < w.heap.size) :
    Calls Try.prog 25 #[.func (.func 30) #[] #[.pointer (some ⟨Bm, 0, none⟩)]] w fun e w' => ∃ v, e = .returned v ∧ w'.ownsRow w.heap.size 3 1 v l.length (((l.map (·.1)).mergeSort fun x y => decide (x ≤ y)).map (Value.int .i64)) ∧ Below w.heap.size w w' := by
  obtain ⟨D, nn, hown, hp, hD, _⟩ := owns Try.underlying3 h hn hw hl
  refine callsIn_wide.1 ((AnyZI.sorted_in LayI.iSorted Fence.wide 6 trivial trivial trivial trivial rfl (by omega) ⟨fun blk off cap ss W h1 h2 h3 => sort_int 5 blk off cap ss W h1 h2 h3, fun p cap W => sort_none 5 p cap W⟩ (enters_of Try.func29 (by kernel_rfl) rfl) 30 #[.pointer (some ⟨Bm, 0, none⟩)] trivial (enters_of Try.func30 (by kernel_rfl) rfl) (fun ss => ss.Perm (intKeys D)) (Maps.size D) (by unfold maxLen; omega) (by omega) w (AnyZI.keys_gives LayI.iKeys1 Fence.wide 3 trivial rfl (by omega) Bm b nn D w hBm hm hown)).mono ?_)
  rintro e w' ⟨v, ss, rfl, hS, hrow, _, hb⟩
  have hS2 := hp ss hS
  refine ⟨v, rfl, ?_, hb⟩
  have e1 : ss.mergeSort (fun x y => decide (x ≤ y)) = (l.map (·.1)).mergeSort (fun x y => decide (x ≤ y)) := by
    have tr : ∀ a b c : Int, decide (a ≤ b) = true → decide (b ≤ c) = true → decide (a ≤ c) = true := fun a b c h1 h2 => by simp only [decide_eq_true_eq] at *; exact Int.le_trans h1 h2
    have tt : ∀ a b : Int, (decide (a ≤ b) || decide (b ≤ a)) = true := fun a b => by simp only [Bool.or_eq_true, decide_eq_true_eq]; exact Int.le_total a b
    refine List.Perm.eq_of_pairwise (le := fun a b => decide (a ≤ b) = true) (fun a b _ _ h1 h2 => ?_) (List.pairwise_mergeSort tr tt ss) (List.pairwise_mergeSort tr tt _) ((List.mergeSort_perm ss _).trans (hS2.trans (List.mergeSort_perm _ _).symm))
    simp only [decide_eq_true_eq] at h1 h2
    exact Int.le_antisymm h1 h2
  rw [e1] at hrow
  have e2 : ss.length = l.length := by rw [hS2.length_eq, List.length_map]
  rw [e2] at hrow
  exact hrow
open Go.Proofs.YtjjbikpjkbdabaaW.PrintWords Go.Proofs.YtjjbikpjkbdabaaW.PrintLast Go.Proofs.YtjjbikpjkbdabaaW.PrintMore Go.Proofs.Ytjjbikpjkbdabaa.TabS Go.Proofs.Ytjjbikpjkbdabaa.Tab Go.Proofs.Ytjjbikpjkbdabaa.RTab
set_option maxHeartbeats 800000 in
set_option maxRecDepth 100000 in
theorem clients_calls {B tb mb : Nat} {bs : List (Int × Nat)} {m : T} {w : World} (h : TabIs B w tb mb bs m) (hn : (m.map (·.1)).Nodup) (hw : ∀ x ∈ m.map (·.1), (Lit.int .i64 x).wf = true) (hl : m.length ≤ 256) :
    Calls Try.prog 18 #[ptr tb] w fun e w' => ∃ v, e = .returned v ∧ w'.ownsRow w.heap.size 3 1 v m.length (((m.map (·.1)).mergeSort fun x y => decide (x ≤ y)).map (Value.int .i64)) ∧ Below w.heap.size w w' := by
  have hut := Try.underlying23
  have hus := Try.underlying60
  have c0 : w.cell? ⟨tb, 0, none⟩ = some (.map (some mb)) := (blk_cell h.tab 0).trans rfl
  have hkeys : (bs.map fun p => (p.1, Tab.ptr p.2)).map (·.1) = m.map (·.1) := by rw [List.map_map]; exact h.keys
  have hlen : (bs.map fun p => (p.1, Tab.ptr p.2)).length = m.length := by rw [List.length_map]; exact h.len
  have hb1 := below_alloc (Below.refl w.heap.size w) (.cells #[.map (some mb)] 58)
  have HS := Aside0.mk (sorted_calls (w.alloc (.cells #[.map (some mb)] 58)) mb w.heap.size _ (h.map.of_block (hb1.block mb h.map.lt)) (by rw [hkeys]; exact hn) (by rw [hkeys]; exact hw) (by rw [hlen]; omega) ((blk_cell (blk_new w _) 0).trans rfl) (by simp))
  rw [hkeys, hlen] at HS
  generalize (m.map (·.1)).mergeSort (fun x y => decide (x ≤ y)) = ss at HS ⊢
  have HB1 := Aside0.mk hb1
  have HK := Aside0.mk (keys_calls (some mb) w)
  clear h hn hw hkeys hlen hb1
  unfold ptr
  go_enter Try.func18, Try.ntmps18
  go_wp2_with fail
  refine HK.out.mono ?_
  rintro e w1 ⟨rfl, rfl⟩
  go_wp2_with fail
  refine HS.out.mono ?_
  rintro e w2 ⟨v, rfl, hr, hb⟩
  have HR := Aside0.mk (RTab.own_mono hr HB1.out.size)
  have HB := Aside0.mk (HB1.out.trans (hb.mono HB1.out.size))
  clear hr hb
  obtain ⟨A, c, rfl⟩ := Go.Proofs.YtjjbikpjkbdabaaW.PrintWords.own_slice HR.out
  go_wp2_with fail
  go_ret
  exact ⟨_, rfl, HR.out, HB.out⟩
set_option maxHeartbeats 800000 in
set_option maxRecDepth 100000 in
theorem ints_calls {w : World} {b b2 : Nat} {A A2 : Option Addr} {c c2 : Nat} {zs : List Int} (h1 : w.ownsRow b 3 1 (.slice A zs.length c) zs.length (zs.map (Value.int .i64))) (h2 : w.ownsRow b2 3 1 (.slice A2 zs.length c2) zs.length (zs.map (Value.int .i64))) (hl : zs.length ≤ 1000) :
    Calls Try.prog 17 #[.slice A zs.length c, .slice A2 zs.length c2] w fun e w' => e = .returned (.bool true) ∧ Below w.heap.size w w' := by
  have H1 := Aside0.mk h1
  have H2 := Aside0.mk h2
  clear h1 h2
  go_enter Try.func17, Try.ntmps17
  go_wp2_with fail
  go_loopw [13] (fun v13 wr => ∃ i : Nat, i ≤ zs.length ∧ v13 = .int .i64 (i : Int) ∧ Aside0 (Below w.heap.size w wr)) (fun x _ => zs.length - (intOf x).toNat)
  case atStart => exact ⟨0, by omega, rfl, ⟨Below.refl _ _⟩⟩
  case round =>
    obtain ⟨i, hi, rfl, HB⟩ := hrel
    by_cases hlt : i < zs.length
    · obtain ⟨z, hz⟩ : ∃ z, zs[i]? = some z := ⟨_, List.getElem?_eq_getElem hlt⟩
      have hz' : (zs.map (Value.int .i64))[i]? = some (.int .i64 z) := by rw [List.getElem?_map, hz]; rfl
      have r1 := own_move H1.out (w1 := wr) (fun k hk => HB.out.block k (own_lt H1.out k hk))
      have r2 := own_move H2.out (w1 := wr) (fun k hk => HB.out.block k (own_lt H2.out k hk))
      obtain ⟨g, cap, e1, x1⟩ := own_cell r1 hz'
      obtain ⟨g2, cap2, e2, x2⟩ := own_cell r2 hz'
      simp only [Value.slice.injEq] at e1 e2
      obtain ⟨rfl, -, rfl⟩ := e1
      obtain ⟨rfl, -, rfl⟩ := e2
      have hlt2 : (i : Int) < (zs.length : Int) := by omega
      have BD : Aside0 (Below w.heap.size w wr.drew) := ⟨below_drew1 HB.out⟩
      clear hz hz' r1 r2
      go_wp2_with fail
      go_region
      all_goals
        go_wp2_with fail
        go_roundw
        case rel => exact ⟨i + 1, by omega, by go_num, BD⟩
        case measure => simp [intOf]; omega
    · obtain rfl : i = zs.length := by omega
      go_wp2_with fail
      go_ret
      exact ⟨rfl, HB.out⟩
end Go.Proofs.Ytjjbikpjkbdabaa.TabK
