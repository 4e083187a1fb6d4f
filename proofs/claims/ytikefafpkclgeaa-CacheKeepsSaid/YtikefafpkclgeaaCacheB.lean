/- What CacheKeeps knows: arrays in memory; plain laws. -/
import Derived.Test.YtikefafpkclgeaaCacheA
set_option linter.unusedVariables false
set_option linter.unusedSimpArgs false
namespace Go.Proofs.Ytikefafpkclgeaa.CacheS
abbrev Kn := Int × ByteArray × Bool
def k0 : Kn := (0, zs, false)
def updK (f : Int → Kn) (k : Int) (v : Kn) : Int → Kn := fun x => if x = k then v else f x
def updB (f : Int → Bool) (k : Int) (v : Bool) : Int → Bool := fun x => if x = k then v else f x
def knO : Option F → Kn
  | none => k0
  | some f => (f.p, f.d, true)
def ynO : Option F → Bool
  | none => false
  | some f => f.y
/-- What L says of a block. -/
def knL (L : List F) (k : Int) : Kn := knO (fnd F.b L k)
def ynL (L : List F) (k : Int) : Bool := ynO (fnd F.b L k)
theorem knL_of {L : List F} {x : Int} {r : Option F} (h : fnd F.b L x = r) : knL L x = knO r := by unfold knL; rw [h]
theorem ynL_of {L : List F} {x : Int} {r : Option F} (h : fnd F.b L x = r) : ynL L x = ynO r := by unfold ynL; rw [h]
/-- A block is laid behind the others. -/
theorem kn_app {L : List F} {f : F} (hno : ∀ e ∈ L, e.b ≠ f.b) : knL (L ++ [f]) = updK (knL L) f.b (f.p, f.d, true) := by
  funext x
  rw [knL_of (fnd_app hno)]
  unfold updK
  by_cases h : x = f.b
  · rw [if_pos h, if_pos h]; rfl
  · rw [if_neg h, if_neg h]; rfl
theorem yn_app {L : List F} {f : F} (hno : ∀ e ∈ L, e.b ≠ f.b) : ynL (L ++ [f]) = updB (ynL L) f.b f.y := by
  funext x
  rw [ynL_of (fnd_app hno)]
  unfold updB
  by_cases h : x = f.b
  · rw [if_pos h, if_pos h]; rfl
  · rw [if_neg h, if_neg h]; rfl
theorem kn_rest (L : List F) (k : Int) : knL (rest F.b L k) = updK (knL L) k k0 := by
  funext x
  rw [knL_of (fnd_rest L k x)]
  unfold updK
  by_cases h : x = k
  · rw [if_pos h, if_pos h]; rfl
  · rw [if_neg h, if_neg h]; rfl
theorem yn_rest (L : List F) (k : Int) : ynL (rest F.b L k) = updB (ynL L) k false := by
  funext x
  rw [ynL_of (fnd_rest L k x)]
  unfold updB
  by_cases h : x = k
  · rw [if_pos h, if_pos h]; rfl
  · rw [if_neg h, if_neg h]; rfl
theorem updK_self (f : Int → Kn) (k : Int) (v : Kn) (h : f k = v) : updK f k v = f := by
  funext x
  unfold updK
  by_cases e : x = k
  · rw [if_pos e, e, h]
  · rw [if_neg e]
theorem updB_self (f : Int → Bool) (k : Int) (v : Bool) (h : f k = v) : updB f k v = f := by
  funext x
  unfold updB
  by_cases e : x = k
  · rw [if_pos e, e, h]
  · rw [if_neg e]
theorem updK_twice (f : Int → Kn) (k : Int) (u v : Kn) : updK (updK f k u) k v = updK f k v := by
  funext x
  unfold updK
  by_cases e : x = k
  · rw [if_pos e, if_pos e]
  · rw [if_neg e, if_neg e, if_neg e]
theorem updB_twice (f : Int → Bool) (k : Int) (u v : Bool) : updB (updB f k u) k v = updB f k v := by
  funext x
  unfold updB
  by_cases e : x = k
  · rw [if_pos e, if_pos e]
  · rw [if_neg e, if_neg e, if_neg e]
theorem kn_hit {L : List F} {k : Int} {f : F} (h : fnd F.b L k = some f) : knL L k = (f.p, f.d, true) := knL_of h
theorem yn_hit {L : List F} {k : Int} {f : F} (h : fnd F.b L k = some f) : ynL L k = f.y := ynL_of h
theorem kn_none {L : List F} {k : Int} (h : fnd F.b L k = none) : knL L k = k0 := knL_of h
theorem yn_none {L : List F} {k : Int} (h : fnd F.b L k = none) : ynL L k = false := ynL_of h
/-- The block f, laid last. -/
theorem kn_last {L : List F} {k : Int} {f g : F} (h : fnd F.b L k = some f) (hb : g.b = k) : knL (rest F.b L k ++ [g]) = updK (knL L) k (g.p, g.d, true) ∧ ynL (rest F.b L k ++ [g]) = updB (ynL L) k g.y := by
  have hno : ∀ e ∈ rest F.b L k, e.b ≠ g.b := fun e he => by rw [hb]; exact rest_no L k e he
  rw [kn_app hno, yn_app hno, kn_rest, yn_rest, hb, updK_twice, updB_twice]
  exact ⟨rfl, rfl⟩
theorem load_keeps {fr : Int} {L : List F} {k : Int} {d : ByteArray} (hn : (L.map F.b).Nodup) (hrg : ∀ f ∈ L, 0 ≤ f.b ∧ f.b < 1024) :
    ((loadS fr L k d).2.2 ≠ 0 ∧ (loadS fr L k d).1 = L) ∨ ((loadS fr L k d).2.2 = 0 ∧ rightS k d = true ∧ ynL (loadS fr L k d).1 = ynL L ∧
      (((loadS fr L k d).2.1 = -1 ∧ knL (loadS fr L k d).1 = updK (knL L) k (0, d, true)) ∨
       (0 ≤ (loadS fr L k d).2.1 ∧ (loadS fr L k d).2.1 < 1024 ∧ (knL L (loadS fr L k d).2.1).1 = 0 ∧ ynL L (loadS fr L k d).2.1 = false ∧ knL (loadS fr L k d).1 = updK (updK (knL L) (loadS fr L k d).2.1 k0) k (0, d, true)))) := by
  unfold loadS
  split
  · exact .inl ⟨by simp, rfl⟩
  · rename_i hr
    have hr2 : rightS k d = true := by simpa using hr
    split
    · exact .inl ⟨by simp, rfl⟩
    · rename_i hh
      have hnone : fnd F.b L k = none := by simpa using hh
      have hno := fnd_none hnone
      split
      · refine .inr ⟨rfl, hr2, ?_, .inl ⟨rfl, kn_app (f := ⟨k, 0, d, false⟩) hno⟩⟩
        show ynL (L ++ [⟨k, 0, d, false⟩]) = _
        rw [yn_app (f := ⟨k, 0, d, false⟩) hno]
        exact updB_self _ _ _ (yn_none hnone)
      · unfold evictS
        cases hf : L.find? free with
        | none => exact .inl ⟨by simp, rfl⟩
        | some v =>
          have hv : v ∈ L := List.mem_of_find?_eq_some hf
          have hfr : free v = true := List.find?_some hf
          have hpy : v.p = 0 ∧ v.y = false := by unfold free at hfr; simpa using hfr
          have hfv := fnd_hit hn hv
          have hno2 : ∀ e ∈ rest F.b L v.b, e.b ≠ (⟨k, 0, d, false⟩ : F).b := fun e he => hno e (rest_mem.1 he).1
          refine .inr ⟨rfl, hr2, ?_, .inr ⟨(hrg v hv).1, (hrg v hv).2, by show (knL L v.b).1 = 0; rw [kn_hit hfv]; exact hpy.1, by show ynL L v.b = false; rw [yn_hit hfv]; exact hpy.2, ?_⟩⟩
          · show ynL (rest F.b L v.b ++ [⟨k, 0, d, false⟩]) = _
            rw [yn_app hno2, yn_rest, updB_self (ynL L) v.b false (by rw [yn_hit hfv]; exact hpy.2)]
            exact updB_self _ _ _ (yn_none hnone)
          · show knL (rest F.b L v.b ++ [⟨k, 0, d, false⟩]) = _
            rw [kn_app hno2, kn_rest]
theorem look_keeps (L : List F) (k : Int) : (lookS L k).2.1 = (knL L k).2.1 ∧ (lookS L k).2.2 = (knL L k).2.2 ∧ knL (lookS L k).1 = knL L ∧ ynL (lookS L k).1 = ynL L := by
  unfold lookS
  cases hf : fnd F.b L k with
  | none => rw [kn_none hf]; exact ⟨rfl, rfl, rfl, rfl⟩
  | some f =>
    have hb := (fnd_mem hf).2
    obtain ⟨h1, h2⟩ := kn_last hf hb
    rw [kn_hit hf]
    refine ⟨rfl, rfl, ?_, ?_⟩
    · show knL (rest F.b L k ++ [f]) = _
      rw [h1]; exact updK_self _ _ _ (kn_hit hf)
    · show ynL (rest F.b L k ++ [f]) = _
      rw [h2]; exact updB_self _ _ _ (yn_hit hf)
theorem store_keeps (L : List F) (k : Int) (d : ByteArray) : ((storeS L k d).2 ≠ 0 ∧ (storeS L k d).1 = L) ∨ ((storeS L k d).2 = 0 ∧ rightS k d = true ∧ knL (storeS L k d).1 = updK (knL L) k ((knL L k).1, d, (knL L k).2.2) ∧ ynL (storeS L k d).1 = updB (ynL L) k true) := by
  rcases store_cases L k d with h | ⟨h0, hr, f, hf, hL⟩
  · exact .inl h
  · have hb := (fnd_mem hf).2
    obtain ⟨h1, h2⟩ := kn_last (g := { f with d := d, y := true }) hf hb
    rw [hL, h1, h2, kn_hit hf]
    exact .inr ⟨h0, hr, rfl, rfl⟩
theorem fnd_mapB (L : List F) (k : Int) (g : F → F) (hg : ∀ f, (g f).b = f.b) (x : Int) : fnd F.b (mapB L k g) x = (fnd F.b L x).map fun f => if f.b = k then g f else f := by
  unfold fnd mapB
  rw [List.find?_map]
  congr 1
  congr 1
  funext f
  simp only [Function.comp_apply]
  split
  · rw [hg]
  · rfl
theorem mapB_keeps {L : List F} {k : Int} {f : F} (g : F → F) (hg : ∀ f, (g f).b = f.b) (hd : ∀ f, (g f).d = f.d) (hy : ∀ f, (g f).y = f.y) (h : fnd F.b L k = some f) : knL (mapB L k g) = updK (knL L) k ((g f).p, (knL L k).2.1, (knL L k).2.2) ∧ ynL (mapB L k g) = ynL L := by
  have hb := (fnd_mem h).2
  constructor
  · funext x
    rw [knL_of (fnd_mapB L k g hg x), kn_hit h]
    unfold updK
    by_cases e : x = k
    · subst e
      rw [h, if_pos rfl]
      show knO (some (if f.b = x then g f else f)) = _
      rw [if_pos hb]
      show ((g f).p, (g f).d, true) = _
      rw [hd]
    · rw [if_neg e]
      unfold knL
      cases hx : fnd F.b L x with
      | none => rfl
      | some y =>
        have := (fnd_mem hx).2
        have hne : ¬ y.b = k := fun q => e (this.symm.trans q)
        show knO (some (if y.b = k then g y else y)) = knO (some y)
        rw [if_neg hne]
  · funext x
    rw [ynL_of (fnd_mapB L k g hg x)]
    unfold ynL
    cases hx : fnd F.b L x with
    | none => rfl
    | some y =>
      show (if y.b = k then g y else y).y = y.y
      split
      · exact hy y
      · rfl
theorem pin_keeps (L : List F) (k : Int) : ((pinS L k).2 ≠ 0 ∧ (pinS L k).1 = L) ∨ ((pinS L k).2 = 0 ∧ (∃ f ∈ L, f.b = k ∧ (knL L k).1 = f.p) ∧ knL (pinS L k).1 = updK (knL L) k ((knL L k).1 + 1, (knL L k).2.1, (knL L k).2.2) ∧ ynL (pinS L k).1 = ynL L) := by
  unfold pinS
  cases hf : fnd F.b L k with
  | none => exact .inl ⟨by simp, rfl⟩
  | some f =>
    obtain ⟨h1, h2⟩ := mapB_keeps (fun f => { f with p := f.p + 1 }) (fun _ => rfl) (fun _ => rfl) (fun _ => rfl) hf
    refine .inr ⟨rfl, ⟨f, (fnd_mem hf).1, (fnd_mem hf).2, by rw [kn_hit hf]⟩, ?_, h2⟩
    show knL (mapB L k _) = _
    rw [h1, kn_hit hf]
theorem unpin_keeps (L : List F) (k : Int) : ((unpinS L k).2 ≠ 0 ∧ (unpinS L k).1 = L) ∨ ((unpinS L k).2 = 0 ∧ (∃ f ∈ L, f.b = k ∧ (knL L k).1 = f.p) ∧ knL (unpinS L k).1 = updK (knL L) k ((knL L k).1 - 1, (knL L k).2.1, (knL L k).2.2) ∧ ynL (unpinS L k).1 = ynL L) := by
  unfold unpinS
  cases hf : fnd F.b L k with
  | none => exact .inl ⟨by simp, rfl⟩
  | some f =>
    by_cases h0 : f.p = 0
    · exact .inl ⟨by simp [h0], by simp [h0]⟩
    · obtain ⟨h1, h2⟩ := mapB_keeps (fun f => { f with p := f.p - 1 }) (fun _ => rfl) (fun _ => rfl) (fun _ => rfl) hf
      refine .inr ⟨by simp [h0], ⟨f, (fnd_mem hf).1, (fnd_mem hf).2, by rw [kn_hit hf]⟩, ?_, ?_⟩
      · simp only [h0, if_false]
        rw [h1, kn_hit hf]
      · simp only [h0, if_false]
        exact h2
theorem fnd_clean (L : List F) (ks : List Int) (x : Int) : fnd F.b (cleanS L ks) x = (fnd F.b L x).map fun f => if f.b ∈ ks then { f with y := false } else f := by
  unfold fnd cleanS
  rw [List.find?_map]
  congr 1
  congr 1
  funext f
  simp only [Function.comp_apply]
  split <;> rfl
theorem kn_clean (L : List F) (ks : List Int) : knL (cleanS L ks) = knL L := by
  funext x
  rw [knL_of (fnd_clean L ks x)]
  unfold knL
  cases fnd F.b L x with
  | none => rfl
  | some f =>
    show knO (some (if f.b ∈ ks then { f with y := false } else f)) = knO (some f)
    split <;> rfl
theorem yn_clean (L : List F) (ks : List Int) (k : Int) : ynL (cleanS L (ks ++ [k])) = updB (ynL (cleanS L ks)) k false := by
  funext x
  unfold updB
  rw [ynL_of (fnd_clean L (ks ++ [k]) x), ynL_of (fnd_clean L ks x)]
  cases hf : fnd F.b L x with
  | none =>
    show false = if x = k then false else false
    split <;> rfl
  | some f =>
    have hb := (fnd_mem hf).2
    show (if f.b ∈ ks ++ [k] then { f with y := false } else f).y = if x = k then false else (if f.b ∈ ks then { f with y := false } else f).y
    rw [hb]
    by_cases h1 : x = k
    · rw [if_pos h1, if_pos (by rw [h1]; simp)]
    · by_cases h2 : x ∈ ks
      · rw [if_neg h1, if_pos (List.mem_append_left _ h2), if_pos h2]
      · rw [if_neg h1, if_neg (by simp [h1, h2]), if_neg h2]
theorem yn_clean_keep (L : List F) (ks : List Int) (k : Int) (h : k ∉ ks) : ynL (cleanS L ks) k = ynL L k := by
  rw [ynL_of (fnd_clean L ks k)]
  unfold ynL
  cases hf : fnd F.b L k with
  | none => rfl
  | some f =>
    have hb := (fnd_mem hf).2
    show (if f.b ∈ ks then { f with y := false } else f).y = f.y
    rw [if_neg (by rw [hb]; exact h)]
theorem dirty_nodup {L : List F} (hn : (L.map F.b).Nodup) : ((dirtyS L).map (·.1)).Nodup := by
  have h1 : (rise (heldS L)).Nodup := (Go.Proofs.Ytikefafpkclgeaa.CacheS.rise_perm (heldS L)).nodup_iff.2 hn
  have h2 : ((dirtyS L).map (·.1)).Sublist (rise (heldS L)) := by
    unfold dirtyS
    generalize rise (heldS L) = ks
    induction ks with
    | nil => exact List.Sublist.refl _
    | cons k ks ih =>
      rw [List.filterMap_cons]
      cases hd : dsel L k with
      | none => exact ih.trans (List.sublist_cons_self ..)
      | some c =>
        have hc : c.1 = k := (dsel_dirty hd).2
        show (c.1 :: (ks.filterMap (dsel L)).map (·.1)).Sublist (k :: ks)
        rw [hc]
        exact List.Sublist.cons_cons k ih
  exact h1.sublist h2
theorem took_facts {L : List F} (hn : (L.map F.b).Nodup) {j : Nat} {c : Int × ByteArray} (hj : (tookS L)[j]? = some c) : ynL (cleanS L (((tookS L).take j).map (·.1))) c.1 = true ∧ (knL L c.1).2.1 = c.2 := by
  have hm : c ∈ dirtyS L := List.mem_of_mem_take (List.mem_of_getElem? hj)
  obtain ⟨f, hf, h1, h2, h3⟩ := Cache.dirty_mem hm
  have hfd : fnd F.b L c.1 = some f := h1 ▸ fnd_hit hn hf
  have hnd : ((tookS L).map (·.1)).Nodup := (dirty_nodup hn).sublist ((List.take_sublist 48 (dirtyS L)).map _)
  have hno : c.1 ∉ ((tookS L).take j).map (·.1) := by
    intro hin
    rw [List.map_take] at hin
    obtain ⟨i, hi⟩ := List.getElem?_of_mem hin
    have hij : i < j := by
      by_cases q : i < j
      · exact q
      · rw [List.getElem?_take_eq_none (by omega)] at hi; cases hi
    rw [List.getElem?_take_of_lt hij] at hi
    have hj2 : ((tookS L).map (·.1))[j]? = some c.1 := by rw [List.getElem?_map, hj]; rfl
    have := Maps.nodup_at (fun x : Int => x) ((tookS L).map (·.1)) (by rw [List.map_id']; exact hnd) i j c.1 c.1 hi hj2 rfl
    omega
  exact ⟨by rw [yn_clean_keep L _ _ hno, yn_hit hfd]; exact h2, by rw [kn_hit hfd]; exact h3⟩
/-- The arrays. -/
def cellK (v : Kn) : Nat → Value
  | 0 => .int .i64 v.1
  | 1 => .string v.2.1
  | _ => .bool v.2.2
def arrK (f : Int → Kn) : Array Value := ((List.range 3072).map fun i : Nat => cellK (f ((i / 3 : Nat) : Int)) (i % 3)).toArray
def arrB (f : Int → Bool) : Array Value := ((List.range 1024).map fun i : Nat => Value.bool (f (i : Int))).toArray
theorem arrK_size (f : Int → Kn) : (arrK f).size = 3072 := by simp [arrK]
theorem arrB_size (f : Int → Bool) : (arrB f).size = 1024 := by simp [arrB]
theorem arrK_get (f : Int → Kn) {i : Nat} (h : i < 3072) : (arrK f)[i]? = some (cellK (f ((i / 3 : Nat) : Int)) (i % 3)) := by simp [arrK, h]
theorem arrB_at (f : Int → Bool) {i : Nat} (h : i < 1024) : (arrB f)[i]? = some (.bool (f (i : Int))) := by simp [arrB, h]
theorem arrK_at (f : Int → Kn) {j q : Nat} (h : j < 1024) (hq : q < 3) : (arrK f)[j * 3 + q]? = some (cellK (f (j : Int)) q) := by
  rw [arrK_get f (by omega), show (j * 3 + q) / 3 = j by omega, show (j * 3 + q) % 3 = q by omega]
theorem arrB_set (f : Int → Bool) {i : Nat} (h : i < 1024) (b : Bool) : (arrB f).setIfInBounds i (.bool b) = arrB (updB f (i : Int) b) := by
  apply Array.ext_getElem?
  intro j
  by_cases hj : j < 1024
  · rw [Array.getElem?_setIfInBounds, arrB_at _ hj]
    by_cases e : i = j
    · subst e
      rw [if_pos rfl, if_pos (by rw [arrB_size]; exact h), arrB_at _ h]
      unfold updB
      rw [if_pos rfl]
    · rw [if_neg e, arrB_at _ hj]
      have : ¬ (j : Int) = (i : Int) := by omega
      unfold updB
      rw [if_neg this]
  · rw [Array.getElem?_eq_none (by rw [Array.size_setIfInBounds, arrB_size]; omega), Array.getElem?_eq_none (by rw [arrB_size]; omega)]
/-- One cell of an element is set. -/
theorem arrK_set (f : Int → Kn) {j q : Nat} (h : j < 1024) (hq : q < 3) (v : Kn) (hv : ∀ p, p < 3 → p ≠ q → cellK v p = cellK (f (j : Int)) p) : (arrK f).setIfInBounds (j * 3 + q) (cellK v q) = arrK (updK f (j : Int) v) := by
  apply Array.ext_getElem?
  intro i
  by_cases hi : i < 3072
  · rw [Array.getElem?_setIfInBounds, arrK_get _ hi, arrK_get _ hi]
    unfold updK
    by_cases e : j * 3 + q = i
    · subst e
      rw [if_pos rfl, if_pos (by rw [arrK_size]; exact hi), show (j * 3 + q) / 3 = j by omega, show (j * 3 + q) % 3 = q by omega, if_pos rfl]
    · rw [if_neg e]
      by_cases e2 : i / 3 = j
      · rw [e2, if_pos rfl, hv (i % 3) (Nat.mod_lt _ (by decide)) (fun z => e (by omega))]
      · have : ¬ ((i / 3 : Nat) : Int) = (j : Int) := by omega
        rw [if_neg this]
  · rw [Array.getElem?_eq_none (by rw [Array.size_setIfInBounds, arrK_size]; omega), Array.getElem?_eq_none (by rw [arrK_size]; omega)]
theorem lt3 {p : Nat} (h : p < 3) : p = 0 ∨ p = 1 ∨ p = 2 := by omega
theorem arrK_p (f : Int → Kn) {j : Nat} (h : j < 1024) (p : Int) : (arrK f).setIfInBounds (j * 3) (.int .i64 p) = arrK (updK f (j : Int) (p, (f (j : Int)).2.1, (f (j : Int)).2.2)) :=
  arrK_set f h (q := 0) (by decide) (p, (f (j : Int)).2.1, (f (j : Int)).2.2) fun r hr hne => by rcases lt3 hr with rfl | rfl | rfl <;> first | rfl | exact absurd rfl hne
theorem arrK_d (f : Int → Kn) {j : Nat} (h : j < 1024) (d : ByteArray) : (arrK f).setIfInBounds (j * 3 + 1) (.string d) = arrK (updK f (j : Int) ((f (j : Int)).1, d, (f (j : Int)).2.2)) :=
  arrK_set f h (q := 1) (by decide) ((f (j : Int)).1, d, (f (j : Int)).2.2) fun r hr hne => by rcases lt3 hr with rfl | rfl | rfl <;> first | rfl | exact absurd rfl hne
theorem arrK_t (f : Int → Kn) {j : Nat} (h : j < 1024) (t : Bool) : (arrK f).setIfInBounds (j * 3 + 2) (.bool t) = arrK (updK f (j : Int) ((f (j : Int)).1, (f (j : Int)).2.1, t)) :=
  arrK_set f h (q := 2) (by decide) ((f (j : Int)).1, (f (j : Int)).2.1, t) fun r hr hne => by rcases lt3 hr with rfl | rfl | rfl <;> first | rfl | exact absurd rfl hne
end Go.Proofs.Ytikefafpkclgeaa.CacheS
namespace Go.Proofs.Ytikefafpkclgeaa.Cache
open Go.RowKit Go.Proofs.YtikefafpkclgeaaW.PrintWords Go.Proofs.YtikefafpkclgeaaW.PrintLast Go.Proofs.YtikefafpkclgeaaW.PrintMore Go.Proofs.Ytikefafpkclgeaa.Maps Go.Proofs.Ytikefafpkclgeaa.CacheS
set_option maxRecDepth 100000 in
theorem zero_arrK : Try.zeroCells51 = arrK (fun _ => k0) := by kernel_rfl
set_option maxRecDepth 100000 in
theorem zero_arrB : Try.zeroCells52 = arrB (fun _ => false) := by kernel_rfl
end Go.Proofs.Ytikefafpkclgeaa.Cache
