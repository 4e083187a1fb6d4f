/- The program's cache: Dirty: the changes of all dirty blocks. -/
import Derived.Test.YtikefafpkclgeaaCacheN
import Derived.Test.YtikefafpkclgeaaLayC
import Derived.Shelf.SortM.Plain
import Derived.Shelf.SortM.SortNone
import Derived.Shelf.SlicesE.Clone
set_option linter.unusedVariables false
set_option linter.unusedSimpArgs false
namespace Go.Proofs.Ytikefafpkclgeaa.CacheS
/-- A row of changes, in cells. -/
def encC (c : Int × ByteArray) : List Value := [.int .i64 c.1, .string c.2]
def flatC (l : List (Int × ByteArray)) : List Value := l.flatMap encC
theorem flatC_snoc (l : List (Int × ByteArray)) (x : Int × ByteArray) : flatC (l ++ [x]) = flatC l ++ encC x := by simp [flatC]
theorem flatC_len (l : List (Int × ByteArray)) : (flatC l).length = l.length * 2 := by
  induction l with
  | nil => rfl
  | cons x l ih => show (encC x ++ flatC l).length = _; rw [List.length_append, ih, List.length_cons]; show 2 + _ = _; omega
theorem flatC_at : ∀ (l : List (Int × ByteArray)) (i j : Nat) (x : Int × ByteArray), l[i]? = some x → j < 2 → (flatC l)[i * 2 + j]? = (encC x)[j]?
  | [], _, _, _, h, _ => by simp at h
  | y :: l, 0, j, x, h, hj => by
    obtain rfl : y = x := by simpa using h
    show (encC y ++ flatC l)[0 * 2 + j]? = _
    rw [List.getElem?_append_left (by show 0 * 2 + j < 2; omega), Nat.zero_mul, Nat.zero_add]
  | y :: l, i + 1, j, x, h, hj => by
    show (encC y ++ flatC l)[(i + 1) * 2 + j]? = _
    rw [List.getElem?_append_right (by show 2 ≤ (i + 1) * 2 + j; omega), show (i + 1) * 2 + j - (encC y).length = i * 2 + j from by show (i + 1) * 2 + j - 2 = _; omega]
    exact flatC_at l i j x (by simpa using h) hj
theorem flatC_one (l : List (Int × ByteArray)) : ∀ u ∈ flatC l, u.oneCell' = true := by
  intro u hu
  unfold flatC at hu
  obtain ⟨c, _, hc⟩ := List.mem_flatMap.1 hu
  unfold encC at hc
  simp at hc
  rcases hc with rfl | rfl <;> rfl
theorem flatC_take : ∀ (l : List (Int × ByteArray)) (m : Nat), flatC (l.take m) = (flatC l).take (m * 2)
  | [], m => by rw [List.take_nil]; show [] = List.take _ []; rw [List.take_nil]
  | x :: l, 0 => by rw [Nat.zero_mul, List.take_zero, List.take_zero]; rfl
  | x :: l, m + 1 => by
    have ih := flatC_take l m
    have e : (m + 1) * 2 = m * 2 + 1 + 1 := by omega
    rw [e]
    show encC x ++ flatC (l.take m) = _
    rw [ih]
    rfl
/-- The changes of the first j keys. -/
def dUp (L : List F) (ks : List Int) (j : Nat) : List (Int × ByteArray) := (ks.take j).filterMap (dsel L)
theorem dUp_zero (L : List F) (ks : List Int) : dUp L ks 0 = [] := by simp [dUp]
theorem dUp_all (L : List F) (ks : List Int) : dUp L ks ks.length = ks.filterMap (dsel L) := by unfold dUp; rw [List.take_length]
theorem dUp_hit {L : List F} {ks : List Int} {j : Nat} {k : Int} {c : Int × ByteArray} (h : ks[j]? = some k) (hd : dsel L k = some c) : dUp L ks (j + 1) = dUp L ks j ++ [c] := by
  unfold dUp
  rw [List.take_add_one, h, Option.toList_some, List.filterMap_append]
  simp [hd]
theorem dUp_miss {L : List F} {ks : List Int} {j : Nat} {k : Int} (h : ks[j]? = some k) (hd : dsel L k = none) : dUp L ks (j + 1) = dUp L ks j := by
  unfold dUp
  rw [List.take_add_one, h, Option.toList_some, List.filterMap_append]
  simp [hd]
theorem dUp_len (L : List F) (ks : List Int) (j : Nat) : (dUp L ks j).length ≤ j := by
  unfold dUp
  exact Nat.le_trans (List.length_filterMap_le ..) (List.length_take_le ..)
theorem rise_perm (ks : List Int) : (rise ks).Perm ks := List.mergeSort_perm ks _
theorem rise_eq {a b : List Int} (h : a.Perm b) : rise a = rise b := by
  have tr : ∀ a b c : Int, decide (a ≤ b) = true → decide (b ≤ c) = true → decide (a ≤ c) = true := fun a b c h1 h2 => by simp only [decide_eq_true_eq] at *; exact Int.le_trans h1 h2
  have tt : ∀ a b : Int, (decide (a ≤ b) || decide (b ≤ a)) = true := fun a b => by simp only [Bool.or_eq_true, decide_eq_true_eq]; exact Int.le_total a b
  refine List.Perm.eq_of_pairwise (le := fun a b => decide (a ≤ b) = true) (fun a b _ _ h1 h2 => ?_) (List.pairwise_mergeSort tr tt a) (List.pairwise_mergeSort tr tt b) ((rise_perm a).trans (h.trans (rise_perm b).symm))
  simp only [decide_eq_true_eq] at h1 h2
  exact Int.le_antisymm h1 h2
end Go.Proofs.Ytikefafpkclgeaa.CacheS
namespace Go.Proofs.Ytikefafpkclgeaa.Cache
open Go.RowKit Go.Shelf Go.Proofs.YtikefafpkclgeaaW.PrintWords Go.Proofs.YtikefafpkclgeaaW.PrintLast Go.Proofs.YtikefafpkclgeaaW.PrintMore Go.Proofs.Ytikefafpkclgeaa.Maps Go.Proofs.Ytikefafpkclgeaa.CacheS
theorem infoCh : (Try.prog.info? 37).map (fun i => (i.zero, i.size, i.bytes)) = some (some (.agg #[.int .i64 0, .string ⟨#[]⟩]), 2, 24) := by kernel_rfl
theorem sort_int (n : Nat) (blk off cap : Nat) (ss : List Int) (W : World) (h : Sort.Holds (Value.int .i64) W blk off ss.toArray) (h1 : blk < W.heap.size) (h2 : ss.length < 4611686018427387904) :
    CallsIn Fence.wide n Try.prog 44 #[.slice (some ⟨blk, off, none⟩) ss.length cap] W fun e w' => e = .returned (.tuple #[]) ∧ ∃ k os, w' = Go.Sort.grow (Go.Sort.putRow (Value.int .i64) (Go.Sort.ahead W k) blk off (ss.mergeSort fun x y => decide (x ≤ y)).toArray) os :=
  callsIn_wide.2 (AnyM.slices_Sort_int LayI.sortInt blk off cap ss W h h1 h2)
theorem sort_int_none (n : Nat) (p : Option Addr) (cap : Nat) (W : World) : CallsIn Fence.wide n Try.prog 44 #[.slice p 0 cap] W fun e w' => e = .returned (.tuple #[]) ∧ w' = W :=
  callsIn_wide.2 (AnyM.slices_Sort_int_none LayI.sortInt p cap W)
section
variable {B : Nat} {w w1 w' : World} {cb mb : Nat} {fr ck : Int} {T : Nat} {E E1 E' : List Ent}
theorem sorted_calls (h : HIs B w mb E) (Bm : Nat) (hm : w.cell? ⟨Bm, 0, none⟩ = some (.map (some mb))) (hBm : Bm < w.heap.size) :
    Calls Try.prog 31 #[.func (.func 45) #[] #[.pointer (some ⟨Bm, 0, none⟩)]] w fun e w' => ∃ v, e = .returned v ∧ w'.ownsRow w.heap.size 3 1 v (rise (E.map Ent.b)).length ((rise (E.map Ent.b)).map (Value.int .i64)) ∧ Below w.heap.size w w' := by
  obtain ⟨l, hl, hnd, hpm, hlen⟩ := keys_perm h
  have hwf : ∀ x ∈ l.map (·.1), (Lit.int .i64 x).wf = true := fun x hx => by
    obtain ⟨e, he, rfl⟩ := List.mem_map.1 (hpm.mem_iff.1 hx)
    exact wf_of (h.rng e he)
  obtain ⟨D, nn, hown, hp, hD, _⟩ := CacheG.owns Try.underlying3 hl hnd hwf (by have := h.len; omega)
  refine callsIn_wide.1 ((AnyZI.sorted_in LayI.iSorted Fence.wide 6 trivial trivial trivial trivial rfl (by omega) ⟨fun blk off cap ss W h1 h2 h3 => sort_int 5 blk off cap ss W h1 h2 h3, fun p cap W => sort_int_none 5 p cap W⟩ (enters_of Try.func44 (by kernel_rfl) rfl) 45 #[.pointer (some ⟨Bm, 0, none⟩)] trivial (enters_of Try.func45 (by kernel_rfl) rfl) (fun ss => ss.Perm (intKeys D)) (Maps.size D) (by unfold maxLen; omega) (by omega) w (AnyZI.keys_gives LayI.iKeys1 Fence.wide 3 trivial rfl (by omega) Bm mb nn D w hBm hm hown)).mono ?_)
  rintro e w' ⟨v, ss, rfl, hS, hrow, _, hb⟩
  have hS2 : ss.Perm (E.map Ent.b) := (hp ss hS).trans hpm
  have e1 : ss.mergeSort (fun x y => decide (x ≤ y)) = rise (E.map Ent.b) := rise_eq hS2
  rw [e1] at hrow
  have e2 : ss.length = (rise (E.map Ent.b)).length := by rw [hS2.length_eq, (rise_perm _).length_eq]
  rw [e2] at hrow
  exact ⟨v, rfl, hrow, hb⟩
theorem dsel_hit (hn : (E.map Ent.b).Nodup) {e : Ent} (he : e ∈ E) : dsel (E.map Ent.f) e.b = if e.y = true then some (e.b, e.d) else none := by
  unfold dsel
  rw [fnd_f, fnd_hit hn he]
  rfl
theorem room4 {n j k : Nat} (h1 : n ≤ j) (h2 : j ≤ k) (h3 : k ≤ 64) : (n + 1) * 24 ≤ 140737488355328 := by omega
theorem nxt (i n : Nat) (h : i < n) (hn : n ≤ 1024) : Value.int .i64 (wrap64 ((i : Int) + 1)) = Value.int .i64 ((i + 1 : Nat) : Int) := by
  have e : wrap64 ((i : Int) + 1) = ((i + 1 : Nat) : Int) := by unfold wrap64; omega
  rw [e]
theorem meas (i n : Nat) (h : i < n) (hn : n ≤ 1024) : n - (intOf (Value.int .i64 (wrap64 ((i : Int) + 1)))).toNat < n - (intOf (Value.int .i64 (i : Int))).toNat := by
  rw [nxt i n h hn]
  simp [intOf]
  omega
theorem one_change (c : Int × ByteArray) : ∀ u ∈ encC c, u.oneCell' = true := by
  intro u hu
  unfold encC at hu
  simp at hu
  rcases hu with rfl | rfl <;> rfl
set_option maxHeartbeats 800000 in
set_option maxRecDepth 100000 in
theorem dirty_nil (w : World) : Calls Try.prog 13 #[.pointer none] w fun e w' => e = .returned (.slice none 0 0) ∧ Below w.heap.size w w' := by
  have hpp := Try.underlying23
  go_enter Try.func13, Try.ntmps13
  go_wp2_with fail
  go_ret
  exact ⟨rfl, Below.refl _ _⟩
set_option maxHeartbeats 6400000 in
set_option maxRecDepth 100000 in
theorem dirty_calls (h : CIs B w cb mb fr ck T E) : Calls Try.prog 13 #[ptr cb] w fun e w' => ∃ v, e = .returned v ∧ w'.ownsRow w.heap.size 37 2 v (dirtyS (E.map Ent.f)).length (flatC (dirtyS (E.map Ent.f))) ∧ Below w.heap.size w w' := by
  have hpp := Try.underlying23
  have hu := Try.underlying57
  have hpf := Try.underlying59
  have hf := Try.underlying65
  have huc := Try.underlying37
  have c2 := h.c2
  have hb1 := below_alloc (Below.refl w.heap.size w) (.cells #[.map (some mb)] 55)
  have HK := Aside0.mk (callsIn_wide.1 (AnyZI.keys_in LayI.iKeys Fence.wide 5 trivial rfl (some mb) w))
  have HS := Aside0.mk (sorted_calls (h.below hb1).hel w.heap.size ((blk_cell (blk_new w (.cells #[.map (some mb)] 55)) 0).trans rfl) (by simp))
  have HB1 := Aside0.mk hb1
  have HH := Aside0.mk h
  have hds : dirtyS (E.map Ent.f) = (rise (E.map Ent.b)).filterMap (dsel (E.map Ent.f)) := by unfold dirtyS heldS; rw [List.map_map]; rfl
  have HKS : Aside0 (∀ k ∈ rise (E.map Ent.b), ∃ e ∈ E, e.b = k) := ⟨fun k hk => by
    obtain ⟨e, he, q⟩ := List.mem_map.1 ((rise_perm _).mem_iff.1 hk)
    exact ⟨e, he, q⟩⟩
  have HLn : Aside0 ((rise (E.map Ent.b)).length ≤ 64) := ⟨by rw [(rise_perm _).length_eq, List.length_map]; exact h.hel.len⟩
  rw [hds]
  generalize rise (E.map Ent.b) = ks at HS HKS HLn ⊢
  clear h hb1 hds
  unfold ptr at *
  go_enter Try.func13, Try.ntmps13
  go_wp2_with fail
  refine HK.out.mono ?_
  rintro e w1 ⟨rfl, rfl⟩
  go_wp2_with fail
  refine HS.out.mono ?_
  rintro e w2 ⟨v, rfl, hr, hb⟩
  obtain ⟨A, c, rfl⟩ := own_slice hr
  have R2 := Aside0.mk hr
  have B2 := Aside0.mk (HB1.out.trans (hb.mono HB1.out.size))
  clear hr hb HK HS c2
  go_wp2_with fail
  go_loopw [3, 15] (fun v3 z wi => ∃ j : Nat, j ≤ ks.length ∧ z = .int .i64 j ∧ Aside0 (wi.ownsRow w2.heap.size 37 2 v3 (dUp (E.map Ent.f) ks j).length (flatC (dUp (E.map Ent.f) ks j)) ∧ Below w2.heap.size w2 wi)) (fun _ z _ => ks.length - (intOf z).toNat)
  case atStart => exact ⟨0, by omega, rfl, ⟨by rw [dUp_zero]; exact own_nil _ _ _ _, Below.refl _ _⟩⟩
  case round =>
    obtain ⟨j, hj, rfl, I⟩ := hrel
    obtain ⟨A3, c3, rfl⟩ := own_slice I.out.1
    have BI := Aside0.mk (B2.out.trans (I.out.2.mono B2.out.size))
    by_cases hlj : j < ks.length
    · obtain ⟨k, hk⟩ : ∃ k, ks[j]? = some k := ⟨_, List.getElem?_eq_getElem hlj⟩
      have hb2 : decide ((j : Int) < (ks.length : Int)) = true := decide_eq_true (by omega)
      have hj2 : (j : Int) < (ks.length : Int) := by omega
      obtain ⟨e, he, rfl⟩ := HKS.out k (List.mem_of_getElem? hk)
      have hx : (ks.map (Value.int .i64))[j]? = some (.int .i64 e.b) := by rw [List.getElem?_map, hk]; rfl
      obtain ⟨gr, cap', e1, x1⟩ := own_cell (own_below R2.out I.out.2) hx
      simp only [Value.slice.injEq] at e1
      obtain ⟨rfl, -, rfl⟩ := e1
      have HW := HH.out.below BI.out
      have c2 := HW.c2
      have P := HW.hel.cel e he
      unfold cells at P
      have y2 := (blk_cell P 2).trans (Eq.refl (some (Value.string e.d)))
      have y3 := (blk_cell P 3).trans (Eq.refl (some (Value.bool e.y)))
      obtain ⟨g, g1, g2⟩ := HW.hel.look
      have hl1 := g1.lookup (KeyLaw.int Try.underlying3) Try.underlying55 (zero_fr wr) e.b
      rw [g2, look_hit HW he] at hl1
      unfold ptr at hl1
      have hml := room4 (dUp_len (E.map Ent.f) ks j) hj HLn.out
      have N1 := Aside0.mk (nxt j ks.length hlj (Nat.le_trans HLn.out (by decide)))
      have M1 := Aside0.mk (meas j ks.length hlj (Nat.le_trans HLn.out (by decide)))
      have HSel := Aside0.mk (dsel_hit HW.hel.nb he)
      have HKj := Aside0.mk hk
      clear HW P g1 g2 hk hx he
      rcases Bool.eq_false_or_eq_true e.y with hy | hy
      · have hE : Aside0 (dUp (E.map Ent.f) ks (j + 1) = dUp (E.map Ent.f) ks j ++ [(e.b, e.d)]) := ⟨dUp_hit HKj.out (by rw [HSel.out, hy]; rfl)⟩
        rw [hy] at y3
        go_wp2_with (at_builtin; refine print_append_cells w2.heap.size rfl (.tmp 28) (.tmp 40) 34 37 (.agg #[.int .i64 0, .string ⟨#[]⟩]) 2 24 rfl Try.underlying34 infoCh rfl (by decide) (by decide) _ _ _ (encC (e.b, e.d)) rfl rfl rfl (one_change (e.b, e.d)) I.out.1 I.out.2 I.out.2.size hml ?_; intro v6 w6 hr6 hb6 hg6 ho6)
        have I6 := Aside0.mk (And.intro hr6 hb6)
        clear hr6 hb6 hg6 ho6 c2 y2 y3 hl1 x1
        go_wp2_with fail
        go_roundw
        case rel => exact ⟨j + 1, hlj, N1.out, ⟨by rw [hE.out, flatC_snoc, List.length_append]; exact I6.out.1, I6.out.2⟩⟩
        case measure => exact M1.out
      · have hE : Aside0 (dUp (E.map Ent.f) ks (j + 1) = dUp (E.map Ent.f) ks j) := ⟨dUp_miss HKj.out (by rw [HSel.out, hy]; rfl)⟩
        rw [hy] at y3
        go_wp2_with fail
        go_roundw
        case rel => exact ⟨j + 1, hlj, N1.out, ⟨by rw [hE.out]; exact I.out.1, I.out.2⟩⟩
        case measure => exact M1.out
    · obtain rfl : j = ks.length := by omega
      have hb2 : decide ((ks.length : Int) < (ks.length : Int)) = false := decide_eq_false (by omega)
      have hr := I.out.1
      rw [dUp_all] at hr
      have R := Aside0.mk (own_mono hr B2.out.size)
      clear hr
      rw [dUp_all]
      go_wp2_with fail
      go_ret
      exact ⟨_, rfl, R.out, BI.out⟩
end
end Go.Proofs.Ytikefafpkclgeaa.Cache
