/- The document's cache: its loops in plain words; its rows in memory. -/
import Derived.Test.YtikefafpkclgeaaCacheV
set_option linter.unusedVariables false
set_option linter.unusedSimpArgs false
namespace Go.Proofs.Ytikefafpkclgeaa.Cache
open Go.RowKit Go.Proofs.YtikefafpkclgeaaW.PrintWords Go.Proofs.YtikefafpkclgeaaW.PrintLast Go.Proofs.YtikefafpkclgeaaW.PrintMore Go.Proofs.Ytikefafpkclgeaa.Maps Go.Proofs.Ytikefafpkclgeaa.CacheS
theorem split_at {L : List F} {i : Nat} {f : F} (h : L[i]? = some f) : L = L.take i ++ f :: L.drop (i + 1) := by
  obtain ⟨hi, rfl⟩ := List.getElem?_eq_some_iff.1 h
  rw [← List.drop_eq_getElem_cons hi, List.take_append_drop]
theorem rest_erase {L : List F} {i : Nat} {f : F} (hn : (L.map F.b).Nodup) (h : L[i]? = some f) : L.eraseIdx i = rest F.b L f.b := by
  have he := split_at h
  have hn2 := hn
  rw [he] at hn2
  have h2 := rest_split hn2
  rw [← he] at h2
  rw [List.eraseIdx_eq_take_drop_succ, h2]
theorem place {L : List F} {k : Int} {f : F} (h : fnd F.b L k = some f) : ∃ i : Nat, L[i]? = some f ∧ f.b = k := by
  obtain ⟨h1, h2⟩ := fnd_mem h
  obtain ⟨i, hi⟩ := List.getElem?_of_mem h1
  exact ⟨i, hi, h2⟩
theorem fnd_place {L : List F} {i : Nat} {f : F} (hn : (L.map F.b).Nodup) (h : L[i]? = some f) : fnd F.b L f.b = some f := fnd_hit hn (List.mem_of_getElem? h)
theorem other_b {L : List F} {i j : Nat} {f x : F} (hn : (L.map F.b).Nodup) (h : L[i]? = some f) (hx : L[j]? = some x) (hij : j < i) : x.b ≠ f.b := fun q => by
  have := nodup_at F.b L hn j i x f hx h q
  omega
theorem mapB_set {L : List F} {i : Nat} {f : F} (hn : (L.map F.b).Nodup) (h : L[i]? = some f) (g : F → F) : L.set i (g f) = mapB L f.b g := by
  refine List.ext_getElem? fun j => ?_
  unfold mapB
  rw [List.getElem?_set, List.getElem?_map]
  by_cases hij : i = j
  · subst hij
    rw [if_pos rfl, if_pos (List.getElem?_eq_some_iff.1 h).1, h]
    simp
  · rw [if_neg hij]
    cases hx : L[j]? with
    | none => rfl
    | some x =>
      have : x.b ≠ f.b := fun q => hij (nodup_at F.b L hn i j f x h hx q.symm)
      simp [this]
/-- Behind j of L, the one at i left out. -/
def wo (L : List F) (i j : Nat) : List F := (L.take j).eraseIdx i
theorem wo_zero (L : List F) (i : Nat) : wo L i 0 = [] := by unfold wo; simp
theorem wo_all (L : List F) (i : Nat) : wo L i L.length = L.eraseIdx i := by unfold wo; rw [List.take_length]
theorem wo_same {L : List F} {i : Nat} {x : F} (hx : L[i]? = some x) : wo L i (i + 1) = wo L i i := by
  have hi := (List.getElem?_eq_some_iff.1 hx).1
  have hl : (L.take i).length = i := by rw [List.length_take]; omega
  unfold wo
  rw [List.take_add_one, hx, Option.toList_some, List.eraseIdx_append_of_length_le (by omega), hl, Nat.sub_self, List.eraseIdx_of_length_le (l := L.take i) (by omega)]
  simp
theorem wo_next {L : List F} {i j : Nat} {x : F} (hx : L[j]? = some x) (hij : j ≠ i) : wo L i (j + 1) = wo L i j ++ [x] := by
  have hj := (List.getElem?_eq_some_iff.1 hx).1
  have hl : (L.take j).length = j := by rw [List.length_take]; omega
  unfold wo
  rw [List.take_add_one, hx, Option.toList_some]
  rcases Nat.lt_or_gt_of_ne hij with h | h
  · rw [List.eraseIdx_of_length_le (by rw [List.length_append, hl]; exact h), List.eraseIdx_of_length_le (by omega)]
  · rw [List.eraseIdx_append_of_lt_length (by omega)]
theorem wo_len (L : List F) (i j : Nat) : (wo L i j).length ≤ j := by
  unfold wo
  exact Nat.le_trans (List.length_eraseIdx_le _ _) (by rw [List.length_take]; omega)
/-- The first that may be let go. -/
theorem free_none {L : List F} (h : ∀ (j : Nat) x, L[j]? = some x → free x = false) : L.find? free = none := List.find?_eq_none.2 fun x hx => by
  obtain ⟨j, hj⟩ := List.getElem?_of_mem hx
  simp [h j x hj]
theorem free_some {L : List F} {i : Nat} {f : F} (h : L[i]? = some f) (hf : free f = true) (hn : ∀ (j : Nat) x, j < i → L[j]? = some x → free x = false) : L.find? free = some f := by
  rw [split_at h, List.find?_append]
  have : (L.take i).find? free = none := free_none fun j x hx => by
    rw [List.getElem?_take] at hx
    by_cases hj : j < i
    · rw [if_pos hj] at hx; exact hn j x hj hx
    · rw [if_neg hj] at hx; cases hx
  rw [this, Option.none_or, List.find?_cons, hf]
/-- What is dirty, by all blocks' numbers. -/
def allK : List Int := (List.range 1024).map (Int.ofNat ·)
theorem allK_at (j : Nat) (hj : j < 1024) : allK[j]? = some (j : Int) := by
  unfold allK
  rw [List.getElem?_map, List.getElem?_range hj]
  rfl
theorem allK_len : allK.length = 1024 := by unfold allK; simp
theorem allK_sorted : allK.Pairwise (· < ·) := by
  unfold allK
  rw [List.pairwise_map]
  exact List.pairwise_lt_range.imp fun h => Int.ofNat_lt.2 h
theorem fm_filter {α β : Type} (g : α → Option β) (p : α → Bool) (h : ∀ x, p x = false → g x = none) : ∀ l : List α, (l.filter p).filterMap g = l.filterMap g
  | [] => rfl
  | x :: l => by
    rw [List.filter_cons]
    cases hp : p x with
    | true => simp only [if_true, List.filterMap_cons, fm_filter g p h l]
    | false => simp only [Bool.false_eq_true, if_false, List.filterMap_cons, fm_filter g p h l, h x hp]
theorem lt_eq : ∀ {a b : List Int}, a.Pairwise (· < ·) → b.Pairwise (· < ·) → (∀ x, x ∈ a ↔ x ∈ b) → a = b
  | [], [], _, _, _ => rfl
  | [], y :: b, _, _, h => by have := (h y).2 (List.mem_cons_self ..); simp at this
  | x :: a, [], _, _, h => by have := (h x).1 (List.mem_cons_self ..); simp at this
  | x :: a, y :: b, ha, hb, h => by
    rw [List.pairwise_cons] at ha hb
    have hxy : x = y := by
      have h1 := (h x).1 (List.mem_cons_self ..)
      have h2 := (h y).2 (List.mem_cons_self ..)
      rcases List.mem_cons.1 h1 with e | e
      · exact e
      · rcases List.mem_cons.1 h2 with e2 | e2
        · exact e2.symm
        · have q1 := hb.1 x e
          have q2 := ha.1 y e2
          omega
    subst hxy
    congr 1
    refine lt_eq ha.2 hb.2 fun z => ⟨fun hz => ?_, fun hz => ?_⟩
    · rcases List.mem_cons.1 ((h z).1 (List.mem_cons_of_mem _ hz)) with e | e
      · have := ha.1 z hz; omega
      · exact e
    · rcases List.mem_cons.1 ((h z).2 (List.mem_cons_of_mem _ hz)) with e | e
      · have := hb.1 z hz; omega
      · exact e
theorem rise_lt {ks : List Int} (h : ks.Nodup) : (rise ks).Pairwise (· < ·) := by
  have h1 : (rise ks).Pairwise (fun x y => decide (x ≤ y) = true) := List.pairwise_mergeSort (fun a b c => by simp; omega) (fun a b => by simp; omega) ks
  have h2 : (rise ks).Nodup := (rise_perm ks).nodup_iff.2 h
  refine (h1.and h2).imp fun {a b} hab => ?_
  have q1 : a ≤ b := by simpa using hab.1
  have q2 : a ≠ b := hab.2
  omega
theorem dirty_all {L : List F} (hn : (L.map F.b).Nodup) (hr : ∀ f ∈ L, 0 ≤ f.b ∧ f.b < 1024) : allK.filterMap (dsel L) = dirtyS L := by
  have hs := allK_sorted
  have hm : ∀ x : Int, 0 ≤ x → x < 1024 → x ∈ allK := fun x h0 h1 => by
    unfold allK
    rw [List.mem_map]
    exact ⟨x.toNat, List.mem_range.2 (by omega), Int.toNat_of_nonneg h0⟩
  generalize allK = K at hs hm ⊢
  unfold dirtyS
  rw [← fm_filter (dsel L) (fun k => decide (k ∈ heldS L)) (fun k hk => by
    unfold dsel
    rw [fnd_miss fun f hf q => by
      have : k ∈ heldS L := by unfold heldS; rw [← q]; exact List.mem_map_of_mem hf
      simp [this] at hk]
    rfl) K]
  congr 1
  refine lt_eq (hs.filter _) (rise_lt hn) fun x => ?_
  rw [List.mem_filter, (rise_perm _).mem_iff]
  refine ⟨fun h => by simpa using h.2, fun h => ⟨?_, by simpa using h⟩⟩
  obtain ⟨f, hf, rfl⟩ := List.mem_map.1 h
  obtain ⟨h0, h1⟩ := hr f hf
  exact hm f.b h0 h1
/-- A frame's cells. -/
def encF (f : F) : List Value := [.int .i64 f.b, .int .i64 f.p, .string f.d, .bool f.y]
def flatF (l : List F) : List Value := l.flatMap encF
theorem flatF_snoc (l : List F) (x : F) : flatF (l ++ [x]) = flatF l ++ encF x := by simp [flatF]
theorem flatF_len (l : List F) : (flatF l).length = l.length * 4 := by
  unfold flatF
  induction l with
  | nil => rfl
  | cons x l ih => show (encF x ++ flatF l).length = _; rw [List.length_append]; unfold flatF; rw [ih, List.length_cons]; show 4 + _ = _; omega
theorem flatF_at : ∀ (l : List F) (i j : Nat) (x : F), l[i]? = some x → j < 4 → (flatF l)[i * 4 + j]? = (encF x)[j]?
  | [], _, _, _, h, _ => by simp at h
  | y :: l, 0, j, x, h, hj => by
    obtain rfl : y = x := by simpa using h
    show (encF y ++ flatF l)[0 * 4 + j]? = _
    rw [Nat.zero_mul, Nat.zero_add, List.getElem?_append_left (by show j < 4; omega)]
  | y :: l, i + 1, j, x, h, hj => by
    show (encF y ++ flatF l)[(i + 1) * 4 + j]? = _
    rw [List.getElem?_append_right (by show 4 ≤ (i + 1) * 4 + j; omega), show (i + 1) * 4 + j - (encF y).length = i * 4 + j from by show (i + 1) * 4 + j - 4 = _; omega]
    exact flatF_at l i j x (by simpa using h) hj
theorem flatF_set : ∀ (l : List F) (i j : Nat) (x x' : F) (u : Value), l[i]? = some x → j < 4 → (encF x).set j u = encF x' → (flatF l).set (i * 4 + j) u = flatF (l.set i x')
  | [], _, _, _, _, _, h, _, _ => by simp at h
  | y :: l, 0, j, x, x', u, h, hj, he => by
    obtain rfl : y = x := by simpa using h
    show (encF y ++ flatF l).set (0 * 4 + j) u = encF x' ++ flatF l
    rw [Nat.zero_mul, Nat.zero_add, List.set_append_left _ _ (by show j < 4; omega), he]
  | y :: l, i + 1, j, x, x', u, h, hj, he => by
    show (encF y ++ flatF l).set ((i + 1) * 4 + j) u = encF y ++ flatF (l.set i x')
    rw [List.set_append_right _ _ (by show 4 ≤ (i + 1) * 4 + j; omega), show (i + 1) * 4 + j - (encF y).length = i * 4 + j from by show (i + 1) * 4 + j - 4 = _; omega]
    rw [flatF_set l i j x x' u (by simpa using h) hj he]
theorem one_frame (x : F) : ∀ u ∈ encF x, u.oneCell' = true := by
  intro u hu
  unfold encF at hu
  simp at hu
  rcases hu with rfl | rfl | rfl | rfl <;> rfl
theorem infoF : (Try.prog.info? 83).map (fun i => (i.zero, i.size, i.bytes)) = some (some (.agg #[.int .i64 0, .int .i64 0, .string ⟨#[]⟩, .bool false]), 4, 40) := by kernel_rfl
theorem frow_at {w : World} {base : Nat} {A : Option Addr} {m k c : Nat} {S : List F} (h : w.ownsRow base 83 4 (.slice A k c) m (flatF S)) {i : Nat} {x : F} (hx : S[i]? = some x) :
    ∃ g, A = some ⟨g, 0, none⟩ ∧ w.cell? ⟨g, i * 4, none⟩ = some (.int .i64 x.b) ∧ w.cell? ⟨g, i * 4 + 1, none⟩ = some (.int .i64 x.p) ∧ w.cell? ⟨g, i * 4 + 2, none⟩ = some (.string x.d) ∧ w.cell? ⟨g, i * 4 + 3, none⟩ = some (.bool x.y) := by
  have h0 := flatF_at S i 0 x hx (by decide)
  have h1 := flatF_at S i 1 x hx (by decide)
  have h2 := flatF_at S i 2 x hx (by decide)
  have h3 := flatF_at S i 3 x hx (by decide)
  obtain ⟨g, cap, e0, c0⟩ := own_cell h (h0.trans rfl)
  obtain ⟨g1, _, e1, c1⟩ := own_cell h (h1.trans rfl)
  obtain ⟨g2, _, e2, c2⟩ := own_cell h (h2.trans rfl)
  obtain ⟨g3, _, e3, c3⟩ := own_cell h (h3.trans rfl)
  simp only [Value.slice.injEq] at e0 e1 e2 e3
  obtain ⟨rfl, -, -⟩ := e0
  have q1 : g1 = g := by simpa using e1.1.symm
  have q2 : g2 = g := by simpa using e2.1.symm
  have q3 : g3 = g := by simpa using e3.1.symm
  subst q1
  subst q2
  subst q3
  exact ⟨g3, rfl, c0, c1, c2, c3⟩
theorem own_set4 {w : World} {base : Nat} {e : TypeId} {g c : Nat} {S : List F} (h : w.ownsRow base e 4 (.slice (some ⟨g, 0, none⟩) S.length c) S.length (flatF S)) {i j : Nat} {x x' : F} {u : Value} (hx : S[i]? = some x) (hj : j < 4) (he : (encF x).set j u = encF x') :
    (w.setCell ⟨g, i * 4 + j, none⟩ u).ownsRow base e 4 (.slice (some ⟨g, 0, none⟩) (S.set i x').length c) (S.set i x').length (flatF (S.set i x')) := by
  rw [List.length_set]
  refine ⟨by rw [flatF_len, List.length_set], ?_⟩
  rcases h.2 with ⟨h1, h0⟩ | ⟨g', cap, cur, h1, h2, h3, h4, h5, h6, h7⟩
  · simp only [Value.slice.injEq] at h1
    cases h1.1
  · simp only [Value.slice.injEq] at h1
    obtain ⟨e1, -, rfl⟩ := h1
    obtain rfl : g = g' := by simpa using e1
    refine .inr ⟨g, c, cur.setIfInBounds (i * 4 + j) u, rfl, h2, blk_set h3 _ _, h4, h5, by simpa using h6, ?_⟩
    rw [Array.toList_setIfInBounds, List.take_set, h7]
    exact flatF_set S i j x x' u hx hj he
theorem own_frozen {w : World} {base : Nat} {e : TypeId} {size g k c n : Nat} {xs : List Value} (h : w.ownsRow base e size (.slice (some ⟨g, 0, none⟩) k c) n xs) : ∃ cs, w.heap[g]? = some (.cells cs e (0, 0)) := by
  rcases h.2 with ⟨h1, h0⟩ | ⟨g', cap, cur, h1, h2, h3, h4, h5, h6, h7⟩
  · simp only [Value.slice.injEq] at h1
    cases h1.1
  · simp only [Value.slice.injEq] at h1
    obtain ⟨e1, -, rfl⟩ := h1
    obtain rfl : g = g' := by simpa using e1
    exact ⟨cur, h3⟩
end Go.Proofs.Ytikefafpkclgeaa.Cache
