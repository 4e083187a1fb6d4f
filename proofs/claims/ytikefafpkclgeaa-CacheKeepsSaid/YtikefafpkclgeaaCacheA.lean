/- Arrays of texts in memory; what is stored and taken: plain laws. -/
import Derived.Test.YtikefafpkclgeaaCacheK
import Derived.ChangeKeysEq
import Derived.Laws.Rows
import Derived.Laws.StructEq
set_option linter.unusedVariables false
set_option linter.unusedSimpArgs false
namespace Go.Proofs.Ytikefafpkclgeaa.CacheS
def upd (f : Int → ByteArray) (k : Int) (d : ByteArray) : Int → ByteArray := fun x => if x = k then d else f x
def dOf (L : List F) (k : Int) (z : ByteArray) : ByteArray := match dsel L k with
  | some c => c.2
  | none => z
/-- What is stored is dirty still, or was taken. -/
def Inv (L : List F) (st tk : Int → ByteArray) : Prop := ∀ k, st k = dOf L k (tk k)
theorem Inv.nil (z : ByteArray) : Inv [] (fun _ => z) (fun _ => z) := fun k => rfl
theorem fnd_app {L : List F} {f : F} {x : Int} (hno : ∀ e ∈ L, e.b ≠ f.b) : fnd F.b (L ++ [f]) x = if x = f.b then some f else fnd F.b L x := by
  unfold fnd
  rw [List.find?_append]
  by_cases h : x = f.b
  · subst h
    have : L.find? (fun e => decide (e.b = f.b)) = none := List.find?_eq_none.2 fun e he => by simpa using hno e he
    rw [this]
    simp
  · have h2 : ¬ f.b = x := fun q => h q.symm
    rw [if_neg h]
    cases L.find? (fun e => decide (e.b = x)) <;> simp [h2]
theorem fnd_rest (L : List F) (k x : Int) : fnd F.b (rest F.b L k) x = if x = k then none else fnd F.b L x := by
  by_cases h : x = k
  · rw [if_pos h]
    exact fnd_miss fun e he => by have := (rest_mem.1 he).2; rw [h]; exact this
  · rw [if_neg h]
    unfold fnd rest
    rw [List.find?_filter]
    congr 1
    funext e
    by_cases h2 : e.b = x
    · have h3 : e.b ≠ k := fun q => h (h2.symm.trans q)
      simp [h2, h3]
      intro q
      exact absurd (h2.trans q) h3
    · simp [h2]
theorem rest_no (L : List F) (k : Int) : ∀ e ∈ rest F.b L k, e.b ≠ k := fun e he => (rest_mem.1 he).2
theorem dsel_of {L : List F} {x : Int} {r : Option F} (h : fnd F.b L x = r) : dsel L x = r.bind fun f => if f.y = true then some (x, f.d) else none := by unfold dsel; rw [h]
theorem dsel_load {fr : Int} {L : List F} {k : Int} {d : ByteArray} (hn : (L.map F.b).Nodup) (x : Int) : dsel (loadS fr L k d).1 x = dsel L x := by
  unfold loadS
  split
  · rfl
  · split
    · rfl
    · rename_i hh
      have hnone : fnd F.b L k = none := by simpa using hh
      have hno := fnd_none hnone
      split
      · rw [dsel_of (fnd_app (f := ⟨k, 0, d, false⟩) hno)]
        by_cases h : x = k
        · subst h
          rw [if_pos rfl, dsel_of hnone]
          simp
        · rw [if_neg h]; rfl
      · unfold evictS
        cases hf : L.find? free with
        | none => rfl
        | some v =>
          have hv : v ∈ L := List.mem_of_find?_eq_some hf
          have hfr : free v = true := List.find?_some hf
          have hy : v.y = false := by unfold free at hfr; simp at hfr; exact hfr.2
          show dsel (rest F.b L v.b ++ [⟨k, 0, d, false⟩]) x = _
          rw [dsel_of (fnd_app (f := ⟨k, 0, d, false⟩) (fun e he => hno e (rest_mem.1 he).1))]
          by_cases h : x = k
          · subst h
            rw [if_pos rfl, dsel_of hnone]
            simp
          · rw [if_neg h, fnd_rest]
            by_cases h2 : x = v.b
            · subst h2
              rw [if_pos rfl, dsel_of (fnd_hit hn hv)]
              simp [hy]
            · rw [if_neg h2]; rfl
theorem Inv.load {fr : Int} {L : List F} {k : Int} {d : ByteArray} {st tk : Int → ByteArray} (h : Inv L st tk) (hn : (L.map F.b).Nodup) : Inv (loadS fr L k d).1 st tk := fun x => by
  unfold dOf
  rw [dsel_load hn]
  exact h x
theorem store_cases (L : List F) (k : Int) (d : ByteArray) : ((storeS L k d).2 ≠ 0 ∧ (storeS L k d).1 = L) ∨ ((storeS L k d).2 = 0 ∧ rightS k d = true ∧ ∃ f, fnd F.b L k = some f ∧ (storeS L k d).1 = rest F.b L k ++ [{ f with d := d, y := true }]) := by
  unfold storeS
  split
  · exact .inl ⟨by simp, rfl⟩
  · rename_i hr
    cases hf : fnd F.b L k with
    | none => exact .inl ⟨by simp, rfl⟩
    | some f => exact .inr ⟨rfl, by simpa using hr, f, rfl, rfl⟩
theorem Inv.store {L : List F} {k : Int} {d : ByteArray} {st tk : Int → ByteArray} (h : Inv L st tk) (h0 : (storeS L k d).2 = 0) : Inv (storeS L k d).1 (upd st k d) tk := fun x => by
  rcases store_cases L k d with ⟨h1, _⟩ | ⟨_, _, f, hf, hL⟩
  · exact absurd h0 h1
  · have hb := (fnd_mem hf).2
    unfold dOf upd
    rw [hL, dsel_of (fnd_app (f := { f with d := d, y := true }) (fun e he => by have := rest_no L k e he; rw [← hb] at this; exact this))]
    show _ = _
    by_cases hx : x = k
    · rw [if_pos hx, if_pos (hx.trans hb.symm)]
      simp
    · rw [if_neg hx, if_neg (fun q => hx (q.trans hb)), fnd_rest, if_neg hx]
      exact h x
theorem dirty_dsel {L : List F} {c : Int × ByteArray} (h : c ∈ dirtyS L) : dsel L c.1 = some c := by
  unfold dirtyS at h
  obtain ⟨k, hk, hd⟩ := List.mem_filterMap.1 h
  have : c.1 = k := by
    unfold dsel at hd
    cases hf : fnd F.b L k with
    | none => rw [hf] at hd; cases hd
    | some f =>
      rw [hf] at hd
      by_cases hy : f.y = true
      · have : c = (k, f.d) := by simpa [hy] using hd.symm
        rw [this]
      · simp [hy] at hd
  rw [this]
  exact hd
theorem dsel_dirty {L : List F} {k : Int} {c : Int × ByteArray} (h : dsel L k = some c) : c ∈ dirtyS L ∧ c.1 = k := by
  have h0 := h
  unfold dsel at h
  cases hf : fnd F.b L k with
  | none => rw [hf] at h; cases h
  | some f =>
    rw [hf] at h
    obtain ⟨h1, h2⟩ := fnd_mem hf
    by_cases hy : f.y = true
    · have hc : c = (k, f.d) := by simpa [hy] using h.symm
      refine ⟨?_, by rw [hc]⟩
      unfold dirtyS
      refine List.mem_filterMap.2 ⟨k, ?_, h0⟩
      rw [(show (rise (heldS L)).Perm (heldS L) from List.mergeSort_perm _ _).mem_iff]
      exact h2 ▸ List.mem_map_of_mem h1
    · simp [hy] at h
def tkUp (tk : Int → ByteArray) (S : List (Int × ByteArray)) (j : Nat) : Int → ByteArray := (S.take j).foldl (fun t c => upd t c.1 c.2) tk
theorem tkUp_zero (tk : Int → ByteArray) (S : List (Int × ByteArray)) : tkUp tk S 0 = tk := by simp [tkUp]
theorem tkUp_next {tk : Int → ByteArray} {S : List (Int × ByteArray)} {j : Nat} {c : Int × ByteArray} (h : S[j]? = some c) : tkUp tk S (j + 1) = upd (tkUp tk S j) c.1 c.2 := by
  unfold tkUp
  rw [List.take_add_one, h, Option.toList_some, List.foldl_append]
  rfl
theorem fold_at (L : List F) : ∀ (S : List (Int × ByteArray)) (tk : Int → ByteArray), (∀ c ∈ S, dsel L c.1 = some c) → ∀ k, S.foldl (fun t c => upd t c.1 c.2) tk k = if k ∈ S.map (·.1) then dOf L k (tk k) else tk k
  | [], tk, _, k => by simp
  | c :: S, tk, h, k => by
    rw [List.foldl_cons, fold_at L S _ (fun x hx => h x (List.mem_cons_of_mem _ hx)) k, List.map_cons]
    have hc := h c (List.mem_cons_self ..)
    unfold upd
    by_cases h1 : k ∈ S.map (·.1)
    · rw [if_pos h1, if_pos (List.mem_cons_of_mem _ h1)]
      obtain ⟨x, hx, rfl⟩ := List.mem_map.1 h1
      have := h x (List.mem_cons_of_mem _ hx)
      unfold dOf
      rw [this]
    · rw [if_neg h1]
      by_cases h2 : k = c.1
      · subst h2
        rw [if_pos rfl, if_pos (List.mem_cons_self ..)]
        unfold dOf
        rw [hc]
      · rw [if_neg h2, if_neg (fun q => by rcases List.mem_cons.1 q with q | q; exact h2 q; exact h1 q)]
theorem tkUp_all (L : List F) (tk : Int → ByteArray) (S : List (Int × ByteArray)) (h : ∀ c ∈ S, dsel L c.1 = some c) (k : Int) : tkUp tk S S.length k = if k ∈ S.map (·.1) then dOf L k (tk k) else tk k := by
  unfold tkUp
  rw [List.take_length]
  exact fold_at L S tk h k
theorem dsel_take (L : List F) (ks : List Int) (x : Int) : dsel (cleanS L ks) x = if x ∈ ks then none else dsel L x := by
  have hf : fnd F.b (cleanS L ks) x = (fnd F.b L x).map fun f => if f.b ∈ ks then { f with y := false } else f := by
    unfold fnd cleanS
    rw [List.find?_map]
    congr 1
    congr 1
    funext f
    simp only [Function.comp_apply]
    split <;> rfl
  rw [dsel_of hf]
  cases hq : fnd F.b L x with
  | none => rw [dsel_of hq]; simp
  | some f =>
    have hb := (fnd_mem hq).2
    rw [dsel_of hq]
    by_cases h : x ∈ ks
    · simp [h, hb]
    · simp [h, hb]
theorem Inv.take {L : List F} {st tk : Int → ByteArray} (h : Inv L st tk) : Inv (takeS L) st (tkUp tk (tookS L) (tookS L).length) := fun x => by
  rw [tkUp_all L tk (tookS L) (fun c hc => dirty_dsel (List.mem_of_mem_take hc))]
  unfold takeS
  have hd := dsel_take L ((tookS L).map (·.1)) x
  unfold dOf at *
  rw [hd]
  by_cases hx : x ∈ (tookS L).map (·.1)
  · rw [if_pos hx, if_pos hx]
    exact h x
  · rw [if_neg hx, if_neg hx]
    exact h x
theorem Inv.all {L : List F} {st tk : Int → ByteArray} (h : Inv L st tk) : tkUp tk (dirtyS L) (dirtyS L).length = st := by
  funext x
  rw [tkUp_all L tk (dirtyS L) (fun c hc => dirty_dsel hc)]
  by_cases hx : x ∈ (dirtyS L).map (·.1)
  · rw [if_pos hx]; exact (h x).symm
  · rw [if_neg hx]
    rw [h x]
    unfold dOf
    cases hd : dsel L x with
    | none => rfl
    | some c =>
      obtain ⟨h1, h2⟩ := dsel_dirty hd
      exact absurd (List.mem_map.2 ⟨c, h1, h2⟩) hx
def arrS (f : Int → ByteArray) : Array Value := (Array.range 1024).map fun i : Nat => .string (f (i : Int))
theorem arrS_size (f : Int → ByteArray) : (arrS f).size = 1024 := by simp [arrS]
theorem arrS_at (f : Int → ByteArray) {i : Nat} (h : i < 1024) : (arrS f)[i]? = some (.string (f (i : Int))) := by simp [arrS, h]
theorem arrS_set (f : Int → ByteArray) {i : Nat} (h : i < 1024) (d : ByteArray) : (arrS f).setIfInBounds i (.string d) = arrS (upd f (i : Int) d) := by
  apply Array.ext_getElem?
  intro j
  by_cases hj : j < 1024
  · rw [Array.getElem?_setIfInBounds, arrS_at _ hj]
    by_cases e : i = j
    · subst e
      rw [if_pos rfl, if_pos (by rw [arrS_size]; exact h), arrS_at _ h]
      unfold upd
      rw [if_pos rfl]
    · rw [if_neg e, arrS_at _ hj]
      have : ¬ (j : Int) = (i : Int) := by omega
      simp [upd, this]
  · rw [Array.getElem?_eq_none (by rw [Array.size_setIfInBounds, arrS_size]; omega), Array.getElem?_eq_none (by rw [arrS_size]; omega)]
end Go.Proofs.Ytikefafpkclgeaa.CacheS
namespace Go.Proofs.Ytikefafpkclgeaa.Cache
open Go.RowKit Go.Proofs.YtikefafpkclgeaaW.PrintWords Go.Proofs.YtikefafpkclgeaaW.PrintLast Go.Proofs.YtikefafpkclgeaaW.PrintMore Go.Proofs.Ytikefafpkclgeaa.Maps Go.Proofs.Ytikefafpkclgeaa.CacheS
theorem zero_rep : Try.zeroCells28 = Array.replicate 1024 (.string zs) := by kernel_rfl
theorem zero_arr : Try.zeroCells28 = arrS (fun _ => zs) := by
  rw [zero_rep]
  apply Array.ext_getElem?
  intro j
  by_cases hj : j < 1024
  · rw [arrS_at _ hj, Array.getElem?_replicate, if_pos hj]
  · rw [Array.getElem?_eq_none (by rw [Array.size_replicate]; omega), Array.getElem?_eq_none (by rw [arrS_size]; omega)]
theorem part_str (xs : Array Value) (o : Nat) (x : ByteArray) (h : xs[o]? = some (.string x)) (w : World) : (part 9 xs o).run Try.prog w = .ok (.string x) w := by
  simp [part, go_sem, Try.underlying9, h]
theorem eq_rows (xs : Array Value) (w : World) : ∀ l : List Nat, (∀ j ∈ l, ∃ s, xs[j]? = some (.string s)) → (Op.eqItems 9999 9 1 xs xs l).run Try.prog w = .ok true w
  | [], _ => by simp [Op.eqItems]
  | j :: l, h => by
    obtain ⟨s, hs⟩ := h j (List.mem_cons_self ..)
    have hp : (part 9 xs (j * 1)).run Try.prog w = .ok (.string s) w := by
      rw [Nat.mul_one]
      exact part_str xs j s hs w
    have he : (Op.equalIn 9999 9 (.string s) (.string s)).run Try.prog w = .ok true w := by
      show (Op.equalIn (9998 + 1) 9 _ _).run Try.prog w = _
      rw [run_equalIn_string w 9998 9 s s Try.underlying9]
      simp
    simp only [Op.eqItems, Sem.run_bind, hp, he, Result.andThen_ok, Sem.run_pure]
    exact eq_rows xs w l fun x hx => h x (List.mem_cons_of_mem _ hx)
theorem eq_arr (f : Int → ByteArray) (w : World) : (Op.equalIn 10000 28 (.agg (arrS f)) (.agg (arrS f))).run Try.prog w = .ok true w := by
  have hi : ∃ i, Try.prog.info? 9 = some i := by
    have h : (Try.prog.info? 9).isSome = true := by kernel_rfl
    exact Option.isSome_iff_exists.1 h
  obtain ⟨i, hi⟩ := hi
  have hc : Try.prog.cellsOf 9 = 1 := by kernel_rfl
  have h2 := run_equalIn_array w 9999 (arrS f) (arrS f) Try.underlying28 hi
  rw [hc, eq_rows (arrS f) w (List.range 1024) (fun j hj => ⟨_, arrS_at f (List.mem_range.1 hj)⟩)] at h2
  exact h2
section
variable {ops : Array Oper} {rest : List Oper} {o : Oper} {a : Act} {Q : Exit → Act → World → Prop}
/-- Two arrays that are one and the same are compared. -/
theorem wpList_eq_arr {W : World} (hg : o.guard = none) (x y : Operand) (rt : TypeId) (ho : o.op = .binOp .eql 28 x y rt) (xs : Array Value) (hx : a.eval x = .agg xs) (hy : a.eval y = .agg xs)
    (heq : ∀ w, (Op.equalIn 10000 28 (.agg xs) (.agg xs)).run Try.prog w = .ok true w) (h : wpList Try.prog ops Q rest (a.put o.dst (.bool true)) W) : wpList Try.prog ops Q (o :: rest) a W := by
  have h1 : (binOp .eql 28 (.agg xs) (.agg xs)).run Try.prog W = .ok (.bool true) W := by
    have h2 : binOp .eql 28 (.agg xs) (.agg xs) = (do pure (.bool (← Op.equal 28 (.agg xs) (.agg xs)))) := rfl
    have h3 : (Op.equal 28 (.agg xs) (.agg xs)).run Try.prog W = .ok true W := heq W
    rw [h2]
    simp only [Sem.run_bind, h3, Result.andThen_ok, Sem.run_pure]
  have h0 : ∀ p q, (eqGuard .eql 28 p q (.agg xs) (.agg xs)).run Try.prog W = .ok () W := fun p q => run_eqGuard_agg W .eql 28 p q xs xs Try.eqGuardType28
  refine wpList_plain hg fun K hK => ?_
  unfold Oper.wp execOp
  simp only [ho, hx, hy, Sem.run_bind, h0, h1, Result.andThen_ok, Sem.run_pure]
  exact hK _ _ h
end
end Go.Proofs.Ytikefafpkclgeaa.Cache
