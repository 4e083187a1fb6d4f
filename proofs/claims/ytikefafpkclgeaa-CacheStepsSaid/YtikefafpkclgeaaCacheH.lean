/- The program's cache: Held: the keys, sorted by when they were used. -/
import Derived.Test.YtikefafpkclgeaaCacheP
import Derived.Test.YtikefafpkclgeaaLayI
import Derived.Shelf.SlSortCmp.NoneTotal
import Derived.Shelf.SlIterI.Sorted
import Derived.Deep.RegionHeld3
import Derived.WideKeyElems
set_option linter.unusedVariables false
set_option linter.unusedSimpArgs false
namespace Go.Proofs.Ytikefafpkclgeaa.CacheG
open Go Go.Proofs Go.RowKit Go.Shelf Go.Proofs.Ytikefafpkclgeaa.Maps Go.MapKept
open Go.WideElems (Fit rd rg pl)
theorem insert_perm {H : Type} (x : Lit × DataW H) : ∀ l : List (Lit × DataW H), (DataW.insert x l).Perm (x :: l)
  | [] => List.Perm.refl _
  | y :: r => by
    unfold DataW.insert
    split
    · exact List.Perm.refl _
    · exact ((insert_perm x r).cons y).trans (List.Perm.swap x y r)
theorem sort_perm {H : Type} : ∀ l : List (Lit × DataW H), (l.foldr DataW.insert []).Perm l
  | [] => List.Perm.refl _
  | x :: r => (insert_perm x _).trans ((sort_perm r).cons x)
def R0 : Value → Option (DataW Unit × List MemPlace) := fun _ => some (.nil, [])
/-- A map of whole numbers, in the words of the shelf. -/
theorem owns {P : Program} {k : TypeId} (hk : P.underlying k = some (.int .i64)) {w : World} {b : Nat} {l : List (Int × Value)} (h : MapIs w (Value.int .i64) b l) (hn : (l.map (·.1)).Nodup) (hw : ∀ x ∈ l.map (·.1), (Lit.int .i64 x).wf = true) (hl : l.length ≤ 1024) :
    ∃ D nn, w.ownsMap P k R0 b nn D ∧ (∀ ss : List Int, ss.Perm (intKeys D) → ss.Perm (l.map (·.1))) ∧ Maps.size D ≤ 1024 ∧ nn = l.length := by
  obtain ⟨es, clock, h1, h3, h2⟩ := h
  have hlen : es.toList.length = l.length := by have := congrArg List.length h3; simpa using this
  have hkeys : es.toList.map (·.key) = (l.map (·.1)).map (Value.int .i64) := by
    have := congrArg (List.map Prod.fst) h3
    rw [List.map_map, List.map_map] at this
    rw [List.map_map]
    exact this
  have hread : ∀ x ∈ es.toList, ∃ z : Int, z ∈ l.map (·.1) ∧ x.key = .int .i64 z ∧ keyOf P k x.key = some (.int .i64 z) := by
    intro x hx
    have : x.key ∈ es.toList.map (·.key) := List.mem_map_of_mem hx
    rw [hkeys] at this
    obtain ⟨z, hz, e⟩ := List.mem_map.1 this
    refine ⟨z, hz, e.symm, ?_⟩
    rw [← e]
    have hw := hw z hz
    simp [keyOf, hk, mapKey, hw]
  have hrd : ∀ x ∈ es.toList, ∃ z : Int, rd P k R0 x = some (.int .i64 z, .nil) ∧ x.key = .int .i64 z := by
    intro x hx
    obtain ⟨z, _, e, hz⟩ := hread x hx
    exact ⟨z, by unfold rd; rw [hz]; rfl, e⟩
  have hint : intKeys (.map ((es.toList.map (rg P k R0)).foldr DataW.insert [])) = ((es.toList.map (rg P k R0)).foldr DataW.insert []).map fun p => Go.intOf p.1 := rfl
  refine ⟨.map ((es.toList.map (rg P k R0)).foldr DataW.insert []), es.size, ⟨es, clock, h1, ⟨?_, ⟨h2.1, h2.2, ?_⟩, fun x hx => ?_⟩, Nat.le_refl _, rfl⟩, fun ss hss => ?_, ?_, by simpa using hlen⟩
  · have : es.size = l.length := by simpa using hlen
    rw [this]; unfold maxLen; omega
  · rw [hkeys]
    refine List.pairwise_map.2 (hn.imp ?_)
    intro a b hab e
    exact hab (by simpa using e)
  · obtain ⟨z, hz, _⟩ := hrd x hx
    exact ⟨_, hz⟩
  · refine hss.trans ?_
    rw [hint]
    refine ((sort_perm _).map _).trans ?_
    rw [List.map_map]
    have e : es.toList.map ((fun p : Lit × DataW Unit => Go.intOf p.1) ∘ rg P k R0) = l.map (·.1) := by
      have e2 : (es.toList.map ((fun p : Lit × DataW Unit => Go.intOf p.1) ∘ rg P k R0)).map (Value.int .i64) = (l.map (·.1)).map (Value.int .i64) := by
        rw [← hkeys, List.map_map]
        refine List.map_congr_left fun x hx => ?_
        obtain ⟨z, hz, hk2⟩ := hrd x hx
        show Value.int .i64 (Go.intOf (rg P k R0 x).1) = x.key
        unfold rg
        rw [hz, hk2]
        rfl
      exact (List.map_inj_right (fun a b h => by simpa using h)).1 e2
    rw [e]
  · show ((es.toList.map (rg P k R0)).foldr DataW.insert []).length ≤ 1024
    rw [(sort_perm _).length_eq, List.length_map, hlen]
    exact hl
section
variable {α : Type} [Inhabited α] {en : α → Value}
theorem holds1 {w : World} {g : Nat} {cur : Array Value} {e : TypeId} {ss : List α} (hb : w.heap[g]? = some (.cells cur e (0, 0))) (ht : cur.toList.take ss.length = ss.map en) : Go.Sort.Holds en w g 0 ss.toArray := by
  intro j hj
  have hj' : j < ss.length := by simpa using hj
  refine ⟨?_, by simp [World.frozen?, hb]⟩
  have h1 : (cur.toList.take ss.length)[j]? = (ss.map en)[j]? := by rw [ht]
  rw [List.getElem?_take_of_lt hj'] at h1
  simp only [World.cell?, hb, Nat.zero_add]
  simp only [Option.isSome_none, Bool.false_eq_true, if_false]
  rw [← Array.getElem?_toList, h1]
  simp [hj']
theorem heap1 {w : World} {g n : Nat} {os : Array Obj} {cur : Array Value} {e : TypeId} {fr : Nat × Nat} (d : Array α) (hb : w.heap[g]? = some (.cells cur e fr)) :
    (sortWorld en w g 0 n d os).heap[g]? = some (.cells (Go.Sort.putCells en 0 d cur) e fr) := by
  have hg : g < w.heap.size := (Array.getElem?_eq_some_iff.1 hb).1
  unfold sortWorld
  rw [Go.Sort.heap_grow_old _ _ (by simpa using hg)]
  simp [Go.Sort.putRow, Go.Sort.mapBlock, Go.Sort.ahead, Array.getElem?_modify, hb, Go.Sort.onCells]
theorem grown1 {w : World} {g n : Nat} {os : Array Obj} (d : Array α) : w.grownBy (sortWorld en w g 0 n d os) (some g) := by
  unfold sortWorld
  refine ⟨rfl, rfl, rfl, by simp, fun k hk hne => ?_⟩
  rw [Go.Sort.heap_grow_old _ _ (by simpa using hk)]
  have : g ≠ k := fun e => hne (by rw [e])
  simp [Go.Sort.putRow, Go.Sort.mapBlock, Go.Sort.ahead, Array.getElem?_modify, this]
theorem take1 (cur : Array Value) (ts : List α) (h : ts.length ≤ cur.size) : (Go.Sort.putCells en 0 ts.toArray cur).toList.take ts.length = ts.map en := by
  apply List.ext_getElem?
  intro j
  by_cases hj : j < ts.length
  · rw [List.getElem?_take_of_lt hj, Array.getElem?_toList]
    simp [Go.Sort.putCells, hj, show j < cur.size by omega]
  · rw [List.getElem?_take_eq_none (by omega), List.getElem?_eq_none (by simp; omega)]
theorem owns1 {w : World} {base g cap n : Nat} {e : TypeId} {os : Array Obj} {cur : Array Value} {k : Nat} {ts : List α} (hl : ts.length = k) (hbase : base ≤ g) (hb : w.heap[g]? = some (.cells cur e (0, 0)))
    (h1 : k ≤ cap) (h2 : cap ≤ maxLen) (h3 : cur.size = cap * 1) :
    (sortWorld en w g 0 n ts.toArray os).ownsRow base e 1 (.slice (some ⟨g, 0, none⟩) k cap) k (ts.map en) :=
  ⟨by simp [hl], .inr ⟨g, cap, _, rfl, hbase, heap1 _ hb, h1, h2, by simp [Go.Sort.putCells, h3], by rw [Nat.mul_one, ← hl]; exact take1 cur ts (by omega)⟩⟩
end
end Go.Proofs.Ytikefafpkclgeaa.CacheG
namespace Go.Proofs.Ytikefafpkclgeaa.Cache
open Go.RowKit Go.Shelf Go.Proofs.YtikefafpkclgeaaW.PrintWords Go.Proofs.YtikefafpkclgeaaW.PrintLast Go.Proofs.YtikefafpkclgeaaW.PrintMore Go.Proofs.Ytikefafpkclgeaa.Maps Go.Proofs.Ytikefafpkclgeaa.CacheS
open Go.Sort (grow)
def cmpI (a b : Int) : Int := if a < b then -1 else if b < a then 1 else 0
theorem cmpI_cases (a b : Int) : (a < b ∧ cmpI a b = -1) ∨ (a = b ∧ cmpI a b = 0) ∨ (b < a ∧ cmpI a b = 1) := by
  unfold cmpI
  rcases Int.lt_trichotomy a b with h | h | h
  · exact .inl ⟨h, if_pos h⟩
  · exact .inr (.inl ⟨h, by rw [if_neg (by omega), if_neg (by omega)]⟩)
  · exact .inr (.inr ⟨h, by rw [if_neg (by omega), if_pos h]⟩)
set_option maxHeartbeats 800000 in
theorem nan_calls (a : Int) (w : World) : Calls Try.prog 47 #[.int .i64 a] w fun e w' => e = .returned (.bool false) ∧ w' = w := by
  have q : (a != a) = false := by simp
  go_enter Try.func47, Try.ntmps47
  go_wp2
  go_ret
  exact ⟨by simp, rfl⟩
set_option maxHeartbeats 1600000 in
set_option maxRecDepth 100000 in
theorem compare_calls (a b : Int) (w : World) : Calls Try.prog 35 #[.int .i64 a, .int .i64 b] w fun e w' => e = .returned (.int .i64 (cmpI a b)) ∧ w' = w := by
  have hb : (decide (a < b) = true ∧ cmpI a b = -1) ∨ (decide (a < b) = false ∧ decide (b < a) = true ∧ cmpI a b = 1) ∨ (decide (a < b) = false ∧ decide (b < a) = false ∧ cmpI a b = 0) := by
    rcases cmpI_cases a b with ⟨h, e⟩ | ⟨h, e⟩ | ⟨h, e⟩
    · exact .inl ⟨decide_eq_true h, e⟩
    · exact .inr (.inr ⟨decide_eq_false (by omega), decide_eq_false (by omega), e⟩)
    · exact .inr (.inl ⟨decide_eq_false (by omega), decide_eq_true h, e⟩)
  have N1 := Aside0.mk (fun W => nan_calls a W)
  have N2 := Aside0.mk (fun W => nan_calls b W)
  rcases hb with ⟨h1, he⟩ | ⟨h1, h2, he⟩ | ⟨h1, h2, he⟩
  all_goals
    rw [he]
    clear he
    go_enter Try.func35, Try.ntmps35
    go_wp2_with fail
    refine (N1.out _).mono ?_
    rintro e w1 ⟨rfl, rfl⟩
    go_wp2_with fail
    refine (N2.out _).mono ?_
    rintro e w1 ⟨rfl, rfl⟩
    go_wp2_with fail
    go_ret
    exact ⟨rfl, rfl⟩
section
variable {B : Nat} {w w' : World} {cb mb : Nat} {fr ck : Int} {T : Nat} {E E' : List Ent}
theorem look_hit (h : CIs B w cb mb fr ck T E) {e : Ent} (he : e ∈ E) : look E e.b = ptr e.a := by unfold look; rw [fnd_hit h.hel.nb he]
set_option maxHeartbeats 3200000 in
set_option maxRecDepth 100000 in
theorem held1_calls (h : CIs B w cb mb fr ck T E) (gc : Nat) (hg : w.cell? ⟨gc, 0, none⟩ = some (ptr cb)) {x y : Ent} (hx : x ∈ E) (hy : y ∈ E) : Calls Try.prog 34 #[.int .i64 x.b, .int .i64 y.b, .pointer (some ⟨gc, 0, none⟩)] w fun e w' => e = .returned (.int .i64 (cmpI x.u y.u)) ∧ ∃ q, w' = w.drewN q := by
  have hpp := Try.underlying23
  have hu := Try.underlying57
  have hpf := Try.underlying59
  have hf := Try.underlying65
  have huu := Try.underlying63
  have hd : Below w.heap.size w w.drew := below_drew1 (Below.refl _ _)
  have hgd : w.drew.cell? ⟨gc, 0, none⟩ = some (ptr cb) := hg
  have c2 := (h.below hd).c2
  have x1 := (blk_cell ((h.below hd).hel.cel x hx) 1).trans (Eq.refl (some (Value.int .i64 x.u)))
  have y1 := (blk_cell ((h.below hd).hel.cel y hy) 1).trans (Eq.refl (some (Value.int .i64 y.u)))
  obtain ⟨g, h1, h2⟩ := (h.below hd).hel.look
  have hl1 := h1.lookup (KeyLaw.int Try.underlying3) Try.underlying55 (zero_fr w.drew) x.b
  have hl2 := h1.lookup (KeyLaw.int Try.underlying3) Try.underlying55 (zero_fr w.drew) y.b
  rw [h2, look_hit h hx] at hl1
  rw [h2, look_hit h hy] at hl2
  have HC := Aside0.mk (compare_calls x.u y.u w.drew)
  clear h h1 h2 hx hy hd hg
  unfold ptr at *
  go_enter Try.func34, Try.ntmps34
  go_wp2_with fail
  go_region_held3 (fun w' => w'.cell? ⟨gc, 0, none⟩ = some (.pointer (some ⟨cb, 0, none⟩)) ∧ w'.cell? ⟨cb, 2, none⟩ = some (.map (some mb)) ∧ w'.cell? ⟨x.a, 1, none⟩ = some (.int .i64 x.u) ∧ w'.cell? ⟨y.a, 1, none⟩ = some (.int .i64 y.u)) (exact ⟨hgd, c2, x1, y1⟩) (first
    | (go_at_call 35; (with_reducible refine HC.out.mono ?_); rintro e w4 ⟨rfl, rfl⟩))
  all_goals
    go_wp2_with fail
    go_ret
    exact ⟨rfl, 1, rfl⟩
end
abbrev Key (E : List Ent) := {k : Int // k ∈ E.map Ent.b}
def usd (E : List Ent) (k : Int) : Int := ((fnd Ent.b E k).map Ent.u).getD 0
theorem usd_hit {E : List Ent} {e : Ent} (hn : (E.map Ent.b).Nodup) (he : e ∈ E) : usd E e.b = e.u := by unfold usd; rw [fnd_hit hn he]; rfl
def cfK (E : List Ent) (x y : Key E) : Int := cmpI (usd E x.1) (usd E y.1)
def enK (E : List Ent) (x : Key E) : Value := .int .i64 x.1
theorem ltK (E : List Ent) (x y : Key E) : Go.Proofs.ltOf (cfK E) x y = decide (usd E x.1 < usd E y.1) := by
  unfold Go.Proofs.ltOf cfK
  rcases cmpI_cases (usd E x.1) (usd E y.1) with ⟨h, e⟩ | ⟨h, e⟩ | ⟨h, e⟩
  · rw [e, decide_eq_true h]; rfl
  · rw [e, decide_eq_false (show ¬ usd E x.1 < usd E y.1 by omega)]; rfl
  · rw [e, decide_eq_false (show ¬ usd E x.1 < usd E y.1 by omega)]; rfl
theorem swoK (E : List Ent) : Go.Sort.SWO (Go.Proofs.ltOf (cfK E)) where
  irrefl x := by rw [ltK]; simp
  trans x y z h1 h2 := by rw [ltK] at *; simp at *; omega
  ntrans x y z h1 h2 := by rw [ltK] at *; simp at *; omega
theorem pw_inj : ∀ {E : List Ent}, E.Pairwise (fun x y => x.u < y.u) → ∀ {x y : Ent}, x ∈ E → y ∈ E → x.u = y.u → x = y
  | [], _, x, _, hx, _, _ => by simp at hx
  | a :: E, h, x, y, hx, hy, e => by
    rw [List.pairwise_cons] at h
    rcases List.mem_cons.1 hx with hx | hx2
    · rcases List.mem_cons.1 hy with hy | hy2
      · rw [hx, hy]
      · have := h.1 y hy2; rw [hx] at e; omega
    · rcases List.mem_cons.1 hy with hy | hy2
      · have := h.1 x hx2; rw [hy] at e; omega
      · exact pw_inj h.2 hx2 hy2 e
theorem usd_inj {E : List Ent} (hn : (E.map Ent.b).Nodup) (ho : E.Pairwise fun x y => x.u < y.u) {a b : Int} (ha : a ∈ E.map Ent.b) (hb : b ∈ E.map Ent.b) (h : usd E a = usd E b) : a = b := by
  obtain ⟨x, hx, rfl⟩ := List.mem_map.1 ha
  obtain ⟨y, hy, rfl⟩ := List.mem_map.1 hb
  rw [usd_hit hn hx, usd_hit hn hy] at h
  rw [pw_inj ho hx hy h]
theorem order_eq {E : List Ent} (hn : (E.map Ent.b).Nodup) (ho : E.Pairwise fun x y => x.u < y.u) {R : List Int} (hp : R.Perm (E.map Ent.b)) (hs : R.Pairwise fun a b => usd E a ≤ usd E b) : R = E.map Ent.b := by
  have h2 : (E.map Ent.b).Pairwise fun a b => usd E a ≤ usd E b := List.pairwise_map.2 (ho.imp_of_mem fun {a b} ha hb h => by rw [usd_hit hn ha, usd_hit hn hb]; omega)
  exact List.Perm.eq_of_pairwise (le := fun a b => usd E a ≤ usd E b) (fun a b ha hb h1 h2 => usd_inj hn ho (hp.mem_iff.1 ha) hb (Int.le_antisymm h1 h2)) hs h2 hp
def srt (E : List Ent) (D : List (Key E)) : List (Key E) := D.mergeSort fun x y => !Go.Proofs.ltOf (cfK E) y x
theorem srt_eq {E : List Ent} (hn : (E.map Ent.b).Nodup) (ho : E.Pairwise fun x y => x.u < y.u) {D : List (Key E)} (hp : (D.map Subtype.val).Perm (E.map Ent.b)) : (srt E D).map Subtype.val = E.map Ent.b := by
  refine order_eq hn ho (((List.mergeSort_perm D _).map _).trans hp) ?_
  have tr : ∀ a b c : Key E, (!Go.Proofs.ltOf (cfK E) b a) = true → (!Go.Proofs.ltOf (cfK E) c b) = true → (!Go.Proofs.ltOf (cfK E) c a) = true := fun a b c h1 h2 => by rw [ltK] at *; simp at *; omega
  have tt : ∀ a b : Key E, ((!Go.Proofs.ltOf (cfK E) b a) || (!Go.Proofs.ltOf (cfK E) a b)) = true := fun a b => by rw [ltK, ltK]; simp; omega
  refine List.pairwise_map.2 ((List.pairwise_mergeSort tr tt D).imp fun {a b} h => ?_)
  rw [ltK] at h
  simp at h
  exact h
section
variable {B : Nat} {w w' : World} {cb mb : Nat} {fr ck : Int} {T : Nat} {E E' : List Ent}
theorem sort_none (p : Option Addr) (cap : Nat) (fv : Value) (w : World) : Calls Try.prog 46 #[.slice p 0 cap, fv] w fun e w' => e = .returned (.tuple #[]) ∧ w' = w :=
  AnyF.slices_SortFunc_none { LayI.sortFn with } p cap fv w
theorem sort_calls [Inhabited (Key E)] (h : CIs B w cb mb fr ck T E) (gc : Nat) (hg : w.cell? ⟨gc, 0, none⟩ = some (ptr cb)) (blk cap : Nat) (hb1 : ∀ k, fp cb mb E k → blk ≠ k) (hb2 : blk ≠ gc) (d : List (Key E)) (hH : Go.Sort.Holds (enK E) w blk 0 d.toArray) (hblk : blk < w.heap.size) (hl : d.length ≤ 1024) :
    Calls Try.prog 46 #[.slice (some ⟨blk, 0, none⟩) d.length cap, .func (.func 34) #[] #[.pointer (some ⟨gc, 0, none⟩)]] w fun e w' => e = .returned (.tuple #[]) ∧ ∃ n os, w' = sortWorld (enK E) w blk 0 n (srt E d).toArray os := by
  have eg : ∀ args w, (callFunc 34 args).run Try.prog w = .ok (.enter 34 args) w := enters_of Try.func34 (by kernel_rfl) rfl
  have hgl : gc < w.heap.size := World.block_lt_of_cell? w _ hg
  have hcmp : CmpReads Try.prog 34 #[.pointer (some ⟨gc, 0, none⟩)] (enK E) (cfK E) blk 0 d.toArray.size w := fun m os dk hs x y => by
    have hG := CacheG.grown1 (en := enK E) (w := w) (g := blk) (n := m) (os := os) dk
    have h' : CIs B (sortWorld (enK E) w blk 0 m dk os) cb mb fr ck T E := h.step fun k hk => hG.block k (h.lt hk) (fun e => hb1 k hk (Option.some.inj e).symm)
    have hg' : (sortWorld (enK E) w blk 0 m dk os).cell? ⟨gc, 0, none⟩ = some (ptr cb) := (World.cell?_of_block (hG.block gc hgl (fun e => hb2 (Option.some.inj e).symm))).trans hg
    obtain ⟨x, hx⟩ := x
    obtain ⟨y, hy⟩ := y
    obtain ⟨ex, hex, rfl⟩ := List.mem_map.1 hx
    obtain ⟨ey, hey, rfl⟩ := List.mem_map.1 hy
    refine (held1_calls h' gc hg' hex hey).mono ?_
    rintro e w' ⟨rfl, q, rfl⟩
    refine ⟨?_, q, rfl⟩
    show _ = Ending.returned (Value.int .i64 (cmpI (usd E ex.b) (usd E ey.b)))
    rw [usd_hit h.hel.nb hex, usd_hit h.hel.nb hey]
  have := Any.slices_SortFunc_total LayI.sortFn (enK E) (fun _ => rfl) (cfK E) (swoK E) 34 #[.pointer (some ⟨gc, 0, none⟩)] blk 0 cap d.toArray w eg hcmp.lays hH hblk (by simp; omega) (fun x y h1 h2 => by
    rw [ltK] at h1 h2
    simp at h1 h2
    exact Subtype.ext (usd_inj h.hel.nb h.ord x.2 y.2 (Int.le_antisymm h2 h1)))
  rw [List.size_toArray] at this
  exact this
/-- The map's keys are the blocks that are held. -/
theorem keys_perm (h : HIs B w mb E) : ∃ l, MapIs w (Value.int .i64) mb l ∧ (l.map (·.1)).Nodup ∧ (l.map (·.1)).Perm (E.map Ent.b) ∧ l.length = E.length := by
  obtain ⟨g, ⟨es, clock, l, h1, h2, h3, h4, h5⟩, k1, k2⟩ := h.map
  have hm : (l.map (·.1)).Perm (E.map Ent.b) := (List.perm_ext_iff_of_nodup h4 h.nb).2 fun k => by
    constructor
    · intro hk
      obtain ⟨p, hp, rfl⟩ := List.mem_map.1 hk
      have := mget_at h4 hp
      rw [h5] at this
      by_cases hq : ∀ e ∈ E, e.b ≠ p.1
      · rw [k2 _ hq] at this; cases this
      · have : ∃ e ∈ E, e.b = p.1 := by simpa using hq
        obtain ⟨e, he, q⟩ := this
        exact q ▸ List.mem_map_of_mem he
    · intro hk
      obtain ⟨e, he, rfl⟩ := List.mem_map.1 hk
      have := k1 e he
      rw [← h5] at this
      exact List.mem_map_of_mem (f := (·.1)) (mget_mem this)
  exact ⟨l, ⟨es, clock, h1, h3, h2⟩, h4, hm, by have := hm.length_eq; simpa using this⟩
theorem wf_of {k : Int} (h : 0 ≤ k ∧ k < 1024) : (Lit.int .i64 k).wf = true := by
  obtain ⟨h1, h2⟩ := h
  simp [Go.Lit.wf, Go.IntKind.min, Go.IntKind.max, Go.IntKind.signed, Go.IntKind.bits]
  omega
set_option maxRecDepth 100000 in
set_option maxHeartbeats 2000000 in
theorem sortedf_calls (h : CIs B w cb mb fr ck T E) (gc Bm : Nat) (hg : w.cell? ⟨gc, 0, none⟩ = some (ptr cb)) (hm : w.cell? ⟨Bm, 0, none⟩ = some (.map (some mb))) (hBm : Bm < w.heap.size) :
    Calls Try.prog 33 #[.func (.func 45) #[] #[.pointer (some ⟨Bm, 0, none⟩)], .func (.func 34) #[] #[.pointer (some ⟨gc, 0, none⟩)]] w fun e w' => ∃ v, e = .returned v ∧ w'.ownsRow w.heap.size 3 1 v E.length ((E.map Ent.b).map (Value.int .i64)) ∧ Below w.heap.size w w' := by
  obtain ⟨l, hl, hnd, hpm, hlen⟩ := keys_perm h.hel
  have hwf : ∀ x ∈ l.map (·.1), (Lit.int .i64 x).wf = true := fun x hx => by
    obtain ⟨e, he, rfl⟩ := List.mem_map.1 (hpm.mem_iff.1 hx)
    exact wf_of (h.hel.rng e he)
  obtain ⟨D, nn, hown, hp, hD, _⟩ := CacheG.owns Try.underlying3 hl hnd hwf (by have := h.hel.len; omega)
  have hgl : gc < w.heap.size := World.block_lt_of_cell? w _ hg
  suffices hgoal : CallsIn Fence.wide 6 Try.prog 33 #[.func (.func 45) #[] #[.pointer (some ⟨Bm, 0, none⟩)], .func (.func 34) #[] #[.pointer (some ⟨gc, 0, none⟩)]] w fun e w' => ∃ v, e = .returned v ∧ w'.ownsRow w.heap.size 3 1 v E.length ((E.map Ent.b).map (Value.int .i64)) ∧ Below w.heap.size w w' from callsIn_wide.1 hgoal
  refine callsIn_of_wp Try.func33 rfl trivial ?_ rfl
  simp only [Try.ntmps33, List.size_toArray, List.length_cons, List.length_nil, Nat.reduceAdd, Nat.reduceSub, Array.replicate_succ, Array.replicate_zero, List.push_toArray, List.append_toArray, List.nil_append, List.cons_append]
  have cC := AnyZI.collect_in LayI.iCollect Fence.wide 5 trivial trivial rfl (by omega) 45 #[.pointer (some ⟨Bm, 0, none⟩)] trivial (enters_of Try.func45 (by kernel_rfl) rfl) (fun ss => ss.Perm (intKeys D)) (Maps.size D) (by unfold maxLen; omega) (by omega) w (AnyZI.keys_gives LayI.iKeys1 Fence.wide 3 trivial rfl (by omega) Bm mb nn D w hBm hm hown)
  have hcoll : Fence.wide.fn 43 := trivial
  have hT : Fence.wide.fn 46 := trivial
  gi_wp2_with (gi_at_call 43; refine cC.mono ?_; rintro e W ⟨v, ss, rfl, hS, hrow, hnil, hb⟩)
  have hrow : W.ownsRow w.heap.size 3 1 v ss.length (ss.map (Value.int .i64)) := hrow
  have hS2 : ss.Perm (E.map Ent.b) := (hp ss hS).trans hpm
  have hsl : ss.length = E.length := by have := hS2.length_eq; simpa using this
  rcases hrow.2 with ⟨rfl, hz⟩ | ⟨gb, cap, cur, rfl, hbase, hgb, r1, r2, r3, r4⟩
  · have hss : ss = [] := List.eq_nil_of_length_eq_zero hz
    subst hss
    have hE : E = [] := List.eq_nil_of_length_eq_zero (by simpa using hsl.symm)
    subst hE
    gi_wp2_with (gi_at_call 46; refine (callsIn_wide.2 (sort_none none 0 _ W)).mono ?_; rintro e w' ⟨rfl, rfl⟩)
    go_ret
    exact ⟨.slice none 0 0, rfl, by simpa using hrow, hb⟩
  · by_cases hE : E = []
    · subst hE
      have hss : ss = [] := List.eq_nil_of_length_eq_zero (by simpa using hsl)
      subst hss
      gi_wp2_with (gi_at_call 46; refine (callsIn_wide.2 (sort_none (some ⟨gb, 0, none⟩) cap _ W)).mono ?_; rintro e w' ⟨rfl, rfl⟩)
      go_ret
      exact ⟨_, rfl, by simpa using hrow, hb⟩
    · obtain ⟨e0, he0⟩ := List.exists_mem_of_ne_nil E hE
      have : Inhabited (Key E) := ⟨⟨e0.b, List.mem_map_of_mem he0⟩⟩
      have hall : ∀ x ∈ ss, x ∈ E.map Ent.b := fun x hx => hS2.mem_iff.1 hx
      have hval : (ss.attachWith (· ∈ E.map Ent.b) hall).map Subtype.val = ss := by simp
      have hlen2 : (ss.attachWith (· ∈ E.map Ent.b) hall).length = ss.length := by simp
      have hmap : (ss.attachWith (· ∈ E.map Ent.b) hall).map (enK E) = ss.map (Value.int .i64) := by
        conv => rhs; rw [← hval]
        rw [List.map_map]; rfl
      generalize ss.attachWith (· ∈ E.map Ent.b) hall = dd at hval hlen2 hmap
      have hH : Go.Sort.Holds (enK E) W gb 0 dd.toArray := CacheG.holds1 hgb (by rw [hmap, hlen2]; simpa using r4)
      have hgl2 : gb < W.heap.size := (Array.getElem?_eq_some_iff.1 hgb).1
      have hcW := h.below hb
      have hgW : W.cell? ⟨gc, 0, none⟩ = some (ptr cb) := (World.cell?_of_block (hb.block gc hgl)).trans hg
      have cS := sort_calls hcW gc hgW gb cap (fun k hk e => by have := h.lt hk; omega) (by omega) dd hH hgl2 (by have := h.hel.len; omega)
      rw [hlen2] at cS
      gi_wp2_with (gi_at_call 46; refine (callsIn_wide.2 cS).mono ?_; rintro e w' ⟨rfl, nn2, os, rfl⟩)
      go_ret
      have hfin : (srt E dd).map (enK E) = (E.map Ent.b).map (Value.int .i64) := by
        rw [← srt_eq h.hel.nb h.ord (by rw [hval]; exact hS2), List.map_map]; rfl
      have hlf : (srt E dd).length = ss.length := by unfold srt; rw [List.length_mergeSort, hlen2]
      refine ⟨_, rfl, ?_, hb.grown (CacheG.grown1 _) hb.size (fun j hj => by cases hj; exact hbase)⟩
      have := CacheG.owns1 (en := enK E) (w := W) (n := nn2) (os := os) hlf hbase hgb r1 r2 r3
      rw [hfin, hsl] at this
      exact this
set_option maxHeartbeats 800000 in
set_option maxRecDepth 100000 in
theorem held_nil (w : World) : Calls Try.prog 15 #[.pointer none] w fun e w' => e = .returned (.slice none 0 0) ∧ Below w.heap.size w w' := by
  have hpp := Try.underlying23
  have HB := Aside0.mk (below_alloc (Below.refl w.heap.size w) (.cells #[.pointer none] 23))
  have c0 := (blk_cell (blk_new w (.cells #[.pointer none] 23)) 0).trans (Eq.refl (some (Value.pointer none)))
  go_enter Try.func15, Try.ntmps15
  go_wp2_with fail
  go_ret
  exact ⟨rfl, HB.out⟩
set_option maxHeartbeats 1600000 in
set_option maxRecDepth 100000 in
theorem held_calls (h : CIs B w cb mb fr ck T E) : Calls Try.prog 15 #[ptr cb] w fun e w' => ∃ v, e = .returned v ∧ w'.ownsRow w.heap.size 3 1 v E.length ((E.map Ent.b).map (Value.int .i64)) ∧ Below w.heap.size w w' := by
  have hpp := Try.underlying23
  have hu := Try.underlying57
  have hb1 := below_alloc (Below.refl w.heap.size w) (.cells #[ptr cb] 23)
  have hb2 := hb1.trans ((below_alloc (Below.refl _ (w.alloc (.cells #[ptr cb] 23))) (.cells #[.map (some mb)] 55)).mono hb1.size)
  have c0 := (blk_cell (blk_new w (.cells #[ptr cb] 23)) 0).trans (Eq.refl (some (ptr cb)))
  have c2 := (h.below hb1).c2
  have HK : Aside0 (∀ W : World, Calls Try.prog 32 #[.map (some mb)] W fun e w' => e = .returned (.func (.func 45) #[] #[.pointer (some ⟨W.heap.size, 0, none⟩)]) ∧ w' = W.alloc (.cells #[.map (some mb)] 55)) := ⟨fun W => callsIn_wide.1 (AnyZI.keys_in LayI.iKeys Fence.wide 5 trivial rfl (some mb) W)⟩
  have hm2 : ((w.alloc (.cells #[ptr cb] 23)).alloc (.cells #[.map (some mb)] 55)).cell? ⟨w.heap.size + 1, 0, none⟩ = some (.map (some mb)) := by
    have h1 := (blk_cell (blk_new (w.alloc (.cells #[ptr cb] 23)) (.cells #[.map (some mb)] 55)) 0).trans (Eq.refl (some (Value.map (some mb))))
    have h2 : (w.alloc (.cells #[ptr cb] 23)).heap.size = w.heap.size + 1 := by simp
    rw [h2] at h1
    exact h1
  have HS := Aside0.mk (sortedf_calls (h.below hb2) w.heap.size (w.heap.size + 1) ((blk_cell (blk_alloc (blk_new w (.cells #[ptr cb] 23)) (.cells #[.map (some mb)] 55)) 0).trans rfl) hm2 (by simp))
  have HB2 := Aside0.mk hb2
  generalize (E.map Ent.b).map (Value.int .i64) = xs at HS ⊢
  generalize E.length = n at HS ⊢
  clear h hb1 hb2
  unfold ptr at *
  go_enter Try.func15, Try.ntmps15
  go_wp2_with fail
  refine (HK.out _).mono ?_
  rintro e w1 ⟨rfl, rfl⟩
  have e1 : (w.alloc (.cells #[.pointer (some ⟨cb, 0, none⟩)] 23)).heap.size = w.heap.size + 1 := by simp
  rw [e1]
  clear e1
  go_wp2_with fail
  refine HS.out.mono ?_
  rintro e w2 ⟨v, rfl, hr, hb⟩
  have HR : Aside0 (w2.ownsRow w.heap.size 3 1 v n xs) := ⟨⟨hr.1, by
    rcases hr.2 with h2 | ⟨g, cap, cur, hv, hg, rest⟩
    · exact .inl h2
    · exact .inr ⟨g, cap, cur, hv, Nat.le_trans HB2.out.size hg, rest⟩⟩⟩
  have HB := Aside0.mk (HB2.out.trans (hb.mono HB2.out.size))
  obtain ⟨A, c, rfl⟩ := own_slice hr
  clear hr hb HS
  go_wp2_with fail
  go_ret
  exact ⟨_, rfl, HR.out, HB.out⟩
end
end Go.Proofs.Ytikefafpkclgeaa.Cache
