/- The document's cache: Load, Look, Store, Pin, Unpin. -/
import Derived.Test.YtikefafpkclgeaaRCache
set_option linter.unusedVariables false
set_option linter.unusedSimpArgs false
namespace Go.Proofs.Ytikefafpkclgeaa.Cache
open Go.RowKit Go.Proofs.YtikefafpkclgeaaW.PrintWords Go.Proofs.YtikefafpkclgeaaW.PrintLast Go.Proofs.YtikefafpkclgeaaW.PrintMore Go.Proofs.Ytikefafpkclgeaa.Maps Go.Proofs.Ytikefafpkclgeaa.CacheS
section
variable {B rb : Nat} {w w1 w' : World} {v u : Value} {n : Int} {L L' : List F}
theorem RPost.after (hF : Fr w w1 (rf rb v)) (hp : RPost B rb v n w1 L' w') : RPost B rb v n w L' w' := by
  obtain ⟨v2, k1, k2, k3⟩ := hp
  exact ⟨v2, k1, hF.trans k2 (fun i hi => .inl hi), fun i hi => (k3 i hi).imp id (Nat.le_trans hF.size)⟩
theorem RIs.done (h : RIs B w' rb v n L') (hF : Fr w w' (rf rb v)) : RPost B rb v n w L' w' := ⟨v, h, hF, fun k hk => .inl hk⟩
theorem RPost.next (hF : Fr w w1 (rf rb v)) (hu : ∀ k, u.ownBlock = some k → v.ownBlock = some k ∨ w.heap.size ≤ k) (hp : RPost B rb u n w1 L' w') : RPost B rb v n w L' w' := by
  obtain ⟨v2, k1, k2, k3⟩ := hp
  refine ⟨v2, k1, hF.trans k2 fun i hi => ?_, fun i hi => ?_⟩
  · rcases hi with rfl | hi
    · exact .inl (.inl rfl)
    · exact (hu i hi).imp .inr id
  · rcases k3 i hi with q | q
    · exact hu i q
    · exact .inr (Nat.le_trans hF.size q)
theorem RIs.setRowU (h : RIs B w rb v n L) {base : Nat} (hbase : w.heap.size ≤ base) (hb : Below w.heap.size w w1) {M : List F} (hr : w1.ownsRow base 83 4 u M.length (flatF M)) : RIs B (w1.setCell ⟨rb, 1, none⟩ u) rb u n M ∧ Fr w (w1.setCell ⟨rb, 1, none⟩ u) (rf rb v) ∧ ∀ k, u.ownBlock = some k → v.ownBlock = some k ∨ w.heap.size ≤ k := by
  have h1 := h.below hb
  have hlt := blk_lt h.blk
  refine ⟨⟨blk_put h1.blk 1 u (by simp), own_mono (own_move hr fun k hk => Below.heap_setCell w1 ⟨rb, 1, none⟩ u k (fun e => by have := own_base hr k hk; have e : k = rb := e; omega)) (by have := h.bd; omega), h.bd⟩, (Fr.of_below hb _).trans (fr_set1 w1 rb 1 u) (fun k hk => .inl (.inl hk)), fun k hk => .inr (Nat.le_trans hbase (own_base hr k hk))⟩
/-- The row has grown. -/
theorem RIs.grow (h : RIs B w rb v n L) {M : List F} (hr : w1.ownsRow B 83 4 u M.length (flatF M)) (hg : w.grownBy w1 v.ownBlock) (ho : u.ownBlock = v.ownBlock ∨ ∃ b, u.ownBlock = some b ∧ w.heap.size ≤ b) : RPost B rb v n w M (w1.setCell ⟨rb, 1, none⟩ u) := by
  have hlt := blk_lt h.blk
  have hap := h.apart
  have hu : ∀ k, u.ownBlock = some k → v.ownBlock = some k ∨ w.heap.size ≤ k := fun k hk => by
    rcases ho with q | ⟨b, q, hb⟩
    · exact .inl (q ▸ hk)
    · rw [q] at hk; cases hk; exact .inr hb
  refine ⟨u, ⟨blk_put (blk_grown h.blk hg (fun q => hap q.symm)) 1 u (by simp), own_move hr fun k hk => Below.heap_setCell w1 ⟨rb, 1, none⟩ u k (fun e => ?_), h.bd⟩, ⟨hg.os, hg.tape, hg.output, by simpa [World.setCell] using hg.size, fun k hk hf => (Below.heap_setCell w1 ⟨rb, 1, none⟩ u k (fun e => hf (.inl e))).trans (hg.block k hk (fun q => hf (.inr q.symm)))⟩, hu⟩
  have e : k = rb := e
  subst e
  rcases hu k hk with q | q
  · exact hap q
  · omega
theorem set_at {L : List F} {i : Nat} {f x : F} (h : L[i]? = some f) : (L.set i x)[i]? = some x := by
  rw [List.getElem?_set, if_pos rfl, if_pos (List.getElem?_eq_some_iff.1 h).1]
set_option maxHeartbeats 6400000 in
set_option maxRecDepth 100000 in
theorem rlook_calls (h : RIs B w rb v n L) (hn : (L.map F.b).Nodup) (hl : L.length ≤ 64) (k : Int) : Calls Try.prog 37 #[ptr rb, .int .i64 k] w fun e w' => e = .returned (.tuple #[.string (lookS L k).2.1, .bool (lookS L k).2.2]) ∧ RPost B rb v n w (lookS L k).1 w' := by
  have hup := Try.underlying43
  have hu := Try.underlying77
  have huf := Try.underlying83
  cases hf : fnd F.b L k with
  | none =>
    have e1 : lookS L k = (L, zs, false) := by unfold lookS; rw [hf]
    rw [e1]
    clear e1
    have HF := Aside0.mk (rfind_no h hl hf)
    have H0 := Aside0.mk h
    clear h hn hl hf
    unfold ptr at HF ⊢
    go_enter Try.func37, Try.ntmps37
    go_wp2_with fail
    refine HF.out.mono ?_
    rintro e w1 ⟨rfl, hb⟩
    have HP := Aside0.mk (H0.out.stay hb)
    clear hb HF
    go_wp2_with fail
    go_ret2
    exact ⟨rfl, HP.out⟩
  | some f =>
    obtain ⟨i, hi, rfl⟩ := place hf
    have e1 : lookS L f.b = (L.eraseIdx i ++ [f], f.d, true) := by unfold lookS; rw [hf, rest_erase hn hi]
    rw [e1]
    clear e1 hf
    obtain ⟨A, c, rfl⟩ := h.slice
    have HF := Aside0.mk (rfind_yes h hn hl hi)
    have H0 := Aside0.mk h
    have HL := Aside0.mk hl
    have HI := Aside0.mk hi
    have hil : (i : Int) < (L.length : Int) := by have := (List.getElem?_eq_some_iff.1 hi).1; omega
    have hi0 : (0 : Int) ≤ (i : Int) := by omega
    have hneg : decide ((i : Int) < 0) = false := decide_eq_false (by omega)
    clear h hn hl hi
    unfold ptr at HF ⊢
    go_enter Try.func37, Try.ntmps37
    go_wp2_with fail
    refine HF.out.mono ?_
    rintro e w1 ⟨rfl, hb⟩
    have B1 := Aside0.mk hb
    have H1 := Aside0.mk (H0.out.below hb)
    clear hb HF
    obtain ⟨g, hA, x0, x1, x2, x3⟩ := frow_at H1.out.row HI.out
    subst hA
    have c1 := H1.out.c1
    have HU := Aside0.mk (ruse_calls H1.out HL.out HI.out)
    unfold ptr at HU
    go_wp2_with fail
    refine HU.out.mono ?_
    rintro e w2 ⟨rfl, hp⟩
    have HP := Aside0.mk (RPost.after (Fr.of_below B1.out _) hp)
    clear hp HU x0 x1 x2 x3 c1
    go_wp2_with fail
    go_ret2
    exact ⟨rfl, HP.out⟩
set_option maxHeartbeats 6400000 in
set_option maxRecDepth 100000 in
theorem rstore_calls (h : RIs B w rb v n L) (hn : (L.map F.b).Nodup) (hl : L.length ≤ 64) (k : Int) (d : ByteArray) : Calls Try.prog 38 #[ptr rb, .int .i64 k, .string d] w fun e w' => e = .returned (.int .i64 (storeS L k d).2) ∧ RPost B rb v n w (storeS L k d).1 w' := by
  have hup := Try.underlying43
  have hu := Try.underlying77
  have huf := Try.underlying83
  have HR := Aside0.mk (fun W => rright_calls k d W)
  cases hr : rightS k d with
  | false =>
    have e1 : storeS L k d = (L, 1) := by unfold storeS; rw [if_pos hr]
    rw [e1]
    rw [hr] at HR
    have H0 := Aside0.mk h
    clear e1 h hn hl hr
    unfold ptr
    go_enter Try.func38, Try.ntmps38
    go_wp2_with fail
    refine (HR.out _).mono ?_
    rintro e w1 ⟨rfl, rfl⟩
    go_wp2_with fail
    go_ret
    exact ⟨rfl, H0.out.stay (Below.refl _ _)⟩
  | true =>
    rw [hr] at HR
    cases hf : fnd F.b L k with
    | none =>
      have e1 : storeS L k d = (L, 6) := by unfold storeS; rw [if_neg (by rw [hr]; decide), hf]
      rw [e1]
      clear e1 hr
      have HF := Aside0.mk (rfind_no h hl hf)
      have H0 := Aside0.mk h
      clear h hn hl hf
      unfold ptr at HF ⊢
      go_enter Try.func38, Try.ntmps38
      go_wp2_with fail
      refine (HR.out _).mono ?_
      rintro e w0 ⟨rfl, rfl⟩
      go_wp2_with fail
      refine HF.out.mono ?_
      rintro e w1 ⟨rfl, hb⟩
      have HP := Aside0.mk (H0.out.stay hb)
      clear hb HF
      go_wp2_with fail
      go_ret
      exact ⟨rfl, HP.out⟩
    | some f =>
      obtain ⟨i, hi, rfl⟩ := place hf
      have e1 : storeS L f.b d = (L.eraseIdx i ++ [{ f with d := d, y := true }], 0) := by unfold storeS; rw [if_neg (by rw [hr]; decide), hf, rest_erase hn hi]
      rw [e1]
      clear e1 hf hr
      obtain ⟨A, c, rfl⟩ := h.slice
      have HF := Aside0.mk (rfind_yes h hn hl hi)
      have H0 := Aside0.mk h
      have HL := Aside0.mk hl
      have HI := Aside0.mk hi
      have hil : (i : Int) < (L.length : Int) := by have := (List.getElem?_eq_some_iff.1 hi).1; omega
      have hi0 : (0 : Int) ≤ (i : Int) := by omega
      have hneg : decide ((i : Int) < 0) = false := decide_eq_false (by omega)
      clear h hn hl hi
      unfold ptr at HF ⊢
      go_enter Try.func38, Try.ntmps38
      go_wp2_with fail
      refine (HR.out _).mono ?_
      rintro e w0 ⟨rfl, rfl⟩
      go_wp2_with fail
      refine HF.out.mono ?_
      rintro e w1 ⟨rfl, hb⟩
      have B1 := Aside0.mk hb
      have H1 := Aside0.mk (H0.out.below hb)
      clear hb HF
      obtain ⟨g, hA, x0, x1, x2, x3⟩ := frow_at H1.out.row HI.out
      subst hA
      have c1 := H1.out.c1
      obtain ⟨g', c', e1, h2, F2, z2⟩ := H1.out.setF (j := 2) (x' := { f with d := d }) (u := .string d) HI.out (by decide) rfl
      simp only [Value.slice.injEq] at e1
      obtain ⟨e1, -, -⟩ := e1
      obtain rfl : g = g' := by simpa using e1
      clear e1
      have S2 := Aside0.mk (And.intro h2 F2)
      clear h2 F2
      go_upto_region 7 with fail
      generalize w1.setCell ⟨g, i * 4 + 2, none⟩ (.string d) = W2 at S2 ⊢
      clear x0 x1 x2 x3 c1 z2
      have HI2 := Aside0.mk (set_at (x := { f with d := d }) HI.out)
      obtain ⟨g', c', e1, h3, F3, z3⟩ := S2.out.1.setF (j := 3) (x' := { f with d := d, y := true }) (u := .bool true) HI2.out (by decide) rfl
      simp only [Value.slice.injEq] at e1
      obtain ⟨e1, -, -⟩ := e1
      obtain rfl : g = g' := by simpa using e1
      clear e1
      obtain ⟨g', hA, x0, x1, x2, x3⟩ := frow_at S2.out.1.row HI2.out
      obtain rfl : g = g' := by simpa using hA
      clear hA
      have c1 := S2.out.1.c1
      rw [List.set_set] at h3
      have hl2 : ((L.set i { f with d := d, y := true }).length : Nat) = L.length := List.length_set ..
      have F4 := Aside0.mk ((S2.out.2.trans F3 (fun k hk => .inl hk)))
      have HU := Aside0.mk (ruse_calls h3 (by rw [hl2]; exact HL.out) (set_at (x := { f with d := d, y := true }) HI.out))
      rw [List.eraseIdx_set_eq] at HU
      unfold ptr at HU
      have hil2 : (i : Int) < ((L.set i { f with d := d }).length : Int) := by rw [List.length_set]; exact hil
      clear h3 F3 hl2
      go_wp2_with fail
      refine HU.out.mono ?_
      rintro e w3 ⟨rfl, hp⟩
      have HP := Aside0.mk (RPost.after (Fr.of_below B1.out _) (RPost.after F4.out hp))
      clear hp HU x0 x1 x2 x3 c1 z3
      go_wp2_with fail
      go_ret
      exact ⟨rfl, HP.out⟩
set_option maxHeartbeats 6400000 in
set_option maxRecDepth 100000 in
theorem rpin_calls (h : RIs B w rb v n L) (hn : (L.map F.b).Nodup) (hl : L.length ≤ 64) (hp : ∀ f ∈ L, 0 ≤ f.p ∧ f.p ≤ 1000000) (k : Int) : Calls Try.prog 39 #[ptr rb, .int .i64 k] w fun e w' => e = .returned (.int .i64 (pinS L k).2) ∧ RPost B rb v n w (pinS L k).1 w' := by
  have hup := Try.underlying43
  have hu := Try.underlying77
  have huf := Try.underlying83
  cases hf : fnd F.b L k with
  | none =>
    have e1 : pinS L k = (L, 6) := by unfold pinS; rw [hf]
    rw [e1]
    clear e1 hp
    have HF := Aside0.mk (rfind_no h hl hf)
    have H0 := Aside0.mk h
    clear h hn hl hf
    unfold ptr at HF ⊢
    go_enter Try.func39, Try.ntmps39
    go_wp2_with fail
    refine HF.out.mono ?_
    rintro e w1 ⟨rfl, hb⟩
    have HP := Aside0.mk (H0.out.stay hb)
    clear hb HF
    go_wp2_with fail
    go_ret
    exact ⟨rfl, HP.out⟩
  | some f =>
    obtain ⟨i, hi, rfl⟩ := place hf
    · have hw : wrap64 (f.p + 1) = f.p + 1 := by have := hp f (List.mem_of_getElem? hi); unfold wrap64; omega
      have e1 : pinS L f.b = (L.set i { f with p := f.p + 1 }, 0) := by unfold pinS; rw [hf, mapB_set hn hi (fun f => { f with p := f.p + 1 })]
      have HW := Aside0.mk hw
      rw [e1]
      clear e1 hf hp hw
      obtain ⟨A, c, rfl⟩ := h.slice
      have HF := Aside0.mk (rfind_yes h hn hl hi)
      have H0 := Aside0.mk h
      have HL := Aside0.mk hl
      have HI := Aside0.mk hi
      have hil : (i : Int) < (L.length : Int) := by have := (List.getElem?_eq_some_iff.1 hi).1; omega
      have hi0 : (0 : Int) ≤ (i : Int) := by omega
      have hneg : decide ((i : Int) < 0) = false := decide_eq_false (by omega)
      clear h hn hl hi
      unfold ptr at HF ⊢
      go_enter Try.func39, Try.ntmps39
      go_wp2_with fail
      refine HF.out.mono ?_
      rintro e w1 ⟨rfl, hb⟩
      have B1 := Aside0.mk hb
      have H1 := Aside0.mk (H0.out.below hb)
      clear hb HF
      obtain ⟨g, hA, x0, x1, x2, x3⟩ := frow_at H1.out.row HI.out
      subst hA
      have c1 := H1.out.c1
      have HPA : Aside0 (RPost B rb (.slice (some ⟨g, 0, none⟩) L.length c) n w (L.set i { f with p := f.p + 1 }) (w1.setCell ⟨g, i * 4 + 1, none⟩ (.int .i64 (wrap64 (f.p + 1)))).drew) := ⟨by
        obtain ⟨g', c', e1, h2, F2, z2⟩ := H1.out.setF (j := 1) (x' := { f with p := f.p + 1 }) (u := .int .i64 (wrap64 (f.p + 1))) HI.out (by decide) (by rw [HW.out]; rfl)
        simp only [Value.slice.injEq] at e1
        obtain ⟨e1, -, -⟩ := e1
        obtain rfl : g = g' := by simpa using e1
        exact RPost.after (Fr.of_below B1.out _) (RPost.after F2 (h2.stay (below_drew1 (Below.refl _ _))))⟩
      have HPB : Aside0 (RPost B rb (.slice (some ⟨g, 0, none⟩) L.length c) n w (L.set i { f with p := f.p + 1 }) (w1.drew.setCell ⟨g, i * 4 + 1, none⟩ (.int .i64 (wrap64 (f.p + 1))))) := ⟨by
        have hd : Below w1.heap.size w1 w1.drew := below_drew1 (Below.refl _ _)
        obtain ⟨g', c', e1, h2, F2, z2⟩ := (H1.out.below hd).setF (j := 1) (x' := { f with p := f.p + 1 }) (u := .int .i64 (wrap64 (f.p + 1))) HI.out (by decide) (by rw [HW.out]; rfl)
        simp only [Value.slice.injEq] at e1
        obtain ⟨e1, -, -⟩ := e1
        obtain rfl : g = g' := by simpa using e1
        exact RPost.after (Fr.of_below B1.out _) (RPost.after (Fr.of_below hd _) (h2.done F2))⟩
      obtain ⟨cs, hcs⟩ := own_frozen H1.out.row
      have hfz := blk_frozen hcs
      have d1 : w1.drew.cell? ⟨rb, 1, none⟩ = some (.slice (some ⟨g, 0, none⟩) L.length c) := c1
      have dx : w1.drew.cell? ⟨g, i * 4 + 1, none⟩ = some (.int .i64 f.p) := x1
      have dfz : ∀ j, w1.drew.frozen? ⟨g, j, none⟩ = false := hfz
      clear hcs x0 x2 x3
      go_wp2_with fail
      go_region
      all_goals
        go_wp2_with fail
        go_ret
        first
        | exact ⟨rfl, HPA.out⟩
        | exact ⟨rfl, HPB.out⟩
set_option maxHeartbeats 6400000 in
set_option maxRecDepth 100000 in
theorem runpin_calls (h : RIs B w rb v n L) (hn : (L.map F.b).Nodup) (hl : L.length ≤ 64) (hp : ∀ f ∈ L, 0 ≤ f.p ∧ f.p ≤ 1000000) (k : Int) : Calls Try.prog 40 #[ptr rb, .int .i64 k] w fun e w' => e = .returned (.int .i64 (unpinS L k).2) ∧ RPost B rb v n w (unpinS L k).1 w' := by
  have hup := Try.underlying43
  have hu := Try.underlying77
  have huf := Try.underlying83
  cases hf : fnd F.b L k with
  | none =>
    have e1 : unpinS L k = (L, 6) := by unfold unpinS; rw [hf]
    rw [e1]
    clear e1 hp
    have HF := Aside0.mk (rfind_no h hl hf)
    have H0 := Aside0.mk h
    clear h hn hl hf
    unfold ptr at HF ⊢
    go_enter Try.func40, Try.ntmps40
    go_wp2_with fail
    refine HF.out.mono ?_
    rintro e w1 ⟨rfl, hb⟩
    have HP := Aside0.mk (H0.out.stay hb)
    clear hb HF
    go_wp2_with fail
    go_ret
    exact ⟨rfl, HP.out⟩
  | some f =>
    obtain ⟨i, hi, rfl⟩ := place hf
    by_cases hz : f.p = 0
    · have e1 : unpinS L f.b = (L, 7) := by unfold unpinS; rw [hf]; exact if_pos hz
      rw [e1]
      clear e1 hf hp
      obtain ⟨A, c, rfl⟩ := h.slice
      have HF := Aside0.mk (rfind_yes h hn hl hi)
      have H0 := Aside0.mk h
      have HL := Aside0.mk hl
      have HI := Aside0.mk hi
      have hil : (i : Int) < (L.length : Int) := by have := (List.getElem?_eq_some_iff.1 hi).1; omega
      have hi0 : (0 : Int) ≤ (i : Int) := by omega
      have hneg : decide ((i : Int) < 0) = false := decide_eq_false (by omega)
      clear h hn hl hi
      unfold ptr at HF ⊢
      go_enter Try.func40, Try.ntmps40
      go_wp2_with fail
      refine HF.out.mono ?_
      rintro e w1 ⟨rfl, hb⟩
      have B1 := Aside0.mk hb
      have H1 := Aside0.mk (H0.out.below hb)
      clear hb HF
      obtain ⟨g, hA, x0, x1, x2, x3⟩ := frow_at H1.out.row HI.out
      subst hA
      have c1 := H1.out.c1
      rw [hz] at x1
      have HP := Aside0.mk (H0.out.stay B1.out)
      clear hz
      go_wp2_with fail
      go_ret
      exact ⟨rfl, HP.out⟩
    · have hw : wrap64 (f.p - 1) = f.p - 1 := by have := hp f (List.mem_of_getElem? hi); unfold wrap64; omega
      have e1 : unpinS L f.b = (L.set i { f with p := f.p - 1 }, 0) := by unfold unpinS; rw [hf, mapB_set hn hi (fun f => { f with p := f.p - 1 })]; exact if_neg hz
      have hz2 : (f.p == 0) = false := by simpa using hz
      have HW := Aside0.mk hw
      rw [e1]
      clear e1 hf hp hz hw
      obtain ⟨A, c, rfl⟩ := h.slice
      have HF := Aside0.mk (rfind_yes h hn hl hi)
      have H0 := Aside0.mk h
      have HL := Aside0.mk hl
      have HI := Aside0.mk hi
      have hil : (i : Int) < (L.length : Int) := by have := (List.getElem?_eq_some_iff.1 hi).1; omega
      have hi0 : (0 : Int) ≤ (i : Int) := by omega
      have hneg : decide ((i : Int) < 0) = false := decide_eq_false (by omega)
      clear h hn hl hi
      unfold ptr at HF ⊢
      go_enter Try.func40, Try.ntmps40
      go_wp2_with fail
      refine HF.out.mono ?_
      rintro e w1 ⟨rfl, hb⟩
      have B1 := Aside0.mk hb
      have H1 := Aside0.mk (H0.out.below hb)
      clear hb HF
      obtain ⟨g, hA, x0, x1, x2, x3⟩ := frow_at H1.out.row HI.out
      subst hA
      have c1 := H1.out.c1
      have HPA : Aside0 (RPost B rb (.slice (some ⟨g, 0, none⟩) L.length c) n w (L.set i { f with p := f.p - 1 }) (w1.setCell ⟨g, i * 4 + 1, none⟩ (.int .i64 (wrap64 (f.p - 1)))).drew) := ⟨by
        obtain ⟨g', c', e1, h2, F2, z2⟩ := H1.out.setF (j := 1) (x' := { f with p := f.p - 1 }) (u := .int .i64 (wrap64 (f.p - 1))) HI.out (by decide) (by rw [HW.out]; rfl)
        simp only [Value.slice.injEq] at e1
        obtain ⟨e1, -, -⟩ := e1
        obtain rfl : g = g' := by simpa using e1
        exact RPost.after (Fr.of_below B1.out _) (RPost.after F2 (h2.stay (below_drew1 (Below.refl _ _))))⟩
      have HPB : Aside0 (RPost B rb (.slice (some ⟨g, 0, none⟩) L.length c) n w (L.set i { f with p := f.p - 1 }) (w1.drew.setCell ⟨g, i * 4 + 1, none⟩ (.int .i64 (wrap64 (f.p - 1))))) := ⟨by
        have hd : Below w1.heap.size w1 w1.drew := below_drew1 (Below.refl _ _)
        obtain ⟨g', c', e1, h2, F2, z2⟩ := (H1.out.below hd).setF (j := 1) (x' := { f with p := f.p - 1 }) (u := .int .i64 (wrap64 (f.p - 1))) HI.out (by decide) (by rw [HW.out]; rfl)
        simp only [Value.slice.injEq] at e1
        obtain ⟨e1, -, -⟩ := e1
        obtain rfl : g = g' := by simpa using e1
        exact RPost.after (Fr.of_below B1.out _) (RPost.after (Fr.of_below hd _) (h2.done F2))⟩
      obtain ⟨cs, hcs⟩ := own_frozen H1.out.row
      have hfz := blk_frozen hcs
      have d1 : w1.drew.cell? ⟨rb, 1, none⟩ = some (.slice (some ⟨g, 0, none⟩) L.length c) := c1
      have dx : w1.drew.cell? ⟨g, i * 4 + 1, none⟩ = some (.int .i64 f.p) := x1
      have dfz : ∀ j, w1.drew.frozen? ⟨g, j, none⟩ = false := hfz
      clear hcs x0 x2 x3
      go_wp2_with fail
      go_region
      all_goals
        go_wp2_with fail
        go_ret
        first
        | exact ⟨rfl, HPA.out⟩
        | exact ⟨rfl, HPB.out⟩
set_option maxHeartbeats 6400000 in
set_option maxRecDepth 100000 in
theorem rload_calls (h : RIs B w rb v n L) (hn : (L.map F.b).Nodup) (hl : L.length ≤ 64) (hp : ∀ f ∈ L, 0 ≤ f.p ∧ f.p ≤ 1000000) (k : Int) (d : ByteArray) : Calls Try.prog 36 #[ptr rb, .int .i64 k, .string d] w fun e w' => e = .returned (.tuple #[.int .i64 (loadS n L k d).2.1, .int .i64 (loadS n L k d).2.2]) ∧ RPost B rb v n w (loadS n L k d).1 w' := by
  have hup := Try.underlying43
  have hu := Try.underlying77
  have huf := Try.underlying83
  have HR := Aside0.mk (fun W => rright_calls k d W)
  cases hr : rightS k d with
  | false =>
    have e1 : loadS n L k d = (L, 0, 1) := by unfold loadS; rw [if_pos hr]
    rw [e1]
    rw [hr] at HR
    have H0 := Aside0.mk h
    clear e1 h hn hl hr hp
    unfold ptr
    go_enter Try.func36, Try.ntmps36
    go_wp2_with fail
    refine (HR.out _).mono ?_
    rintro e w1 ⟨rfl, rfl⟩
    go_wp2_with fail
    go_ret2
    exact ⟨rfl, H0.out.stay (Below.refl _ _)⟩
  | true =>
    rw [hr] at HR
    cases hf : fnd F.b L k with
    | some f =>
      obtain ⟨i, hi, rfl⟩ := place hf
      have e1 : loadS n L f.b d = (L, 0, 7) := by unfold loadS; rw [if_neg (by rw [hr]; decide), hf]; rfl
      rw [e1]
      clear e1 hf hr hp
      obtain ⟨A, c, rfl⟩ := h.slice
      have HF := Aside0.mk (rfind_yes h hn hl hi)
      have H0 := Aside0.mk h
      have HL := Aside0.mk hl
      have HI := Aside0.mk hi
      have hil : (i : Int) < (L.length : Int) := by have := (List.getElem?_eq_some_iff.1 hi).1; omega
      have hi0 : (0 : Int) ≤ (i : Int) := by omega
      have hneg : decide ((i : Int) < 0) = false := decide_eq_false (by omega)
      clear h hn hl hi
      unfold ptr at HF ⊢
      go_enter Try.func36, Try.ntmps36
      go_wp2_with fail
      refine (HR.out _).mono ?_
      rintro e w0 ⟨rfl, rfl⟩
      go_wp2_with fail
      refine HF.out.mono ?_
      rintro e w1 ⟨rfl, hb⟩
      have HP := Aside0.mk (H0.out.stay hb)
      have hge : decide ((i : Int) ≥ 0) = true := decide_eq_true (by omega)
      clear hb HF
      go_wp2_with fail
      go_ret2
      exact ⟨rfl, HP.out⟩
    | none =>
      obtain ⟨A, c, rfl⟩ := h.slice
      have HL : Aside0 (L.length ≤ 64) := ⟨hl⟩
      have hml : (L.length + 1) * 40 ≤ 140737488355328 := room7 hl
      have hlo : loadS n L k d = if (L.length : Int) < n then (L ++ [⟨k, 0, d, false⟩], -1, 0) else evictS L k d := by unfold loadS; rw [if_neg (by rw [hr]; decide), if_neg (by rw [hf]; decide)]
      have HPin := Aside0.mk hp
      have HN := Aside0.mk hn
      have HF := Aside0.mk (rfind_no h hl hf)
      have H0 := Aside0.mk h
      clear h hn hl hf hr hp
      by_cases hfull : (L.length : Int) < n
      · rw [hlo, if_pos hfull]
        have hge : decide ((L.length : Int) ≥ n) = false := decide_eq_false (by omega)
        clear hlo hfull
        unfold ptr at HF ⊢
        go_enter Try.func36, Try.ntmps36
        go_wp2_with fail
        refine (HR.out _).mono ?_
        rintro e w0 ⟨rfl, rfl⟩
        go_wp2_with fail
        refine HF.out.mono ?_
        rintro e w1 ⟨rfl, hb⟩
        have B2 : Aside0 (Below w0.heap.size w0 w1.drew) := ⟨below_drew1 hb⟩
        have HX := Aside0.mk (H0.out.below B2.out)
        have a1 := (H0.out.below hb).c1
        have a0 := (H0.out.below hb).c0
        have c1 := HX.out.c1
        have c0 := HX.out.c0
        clear hb HF
        go_wp2_with fail
        go_region
        all_goals
          generalize w1.drew = W2 at B2 HX c1 c0 ⊢
          clear a1 a0
          go_wp2_with (
            at_builtin
            refine print_append_cells B rfl (.tmp 86) (.tmp 90) 75 83 (.agg #[.int .i64 0, .int .i64 0, .string ⟨#[]⟩, .bool false]) 4 40 rfl Try.underlying75 infoF rfl (by decide) (by decide) _ _ _ (encF ⟨k, 0, d, false⟩) rfl rfl rfl (one_frame ⟨k, 0, d, false⟩) HX.out.row (Below.refl _ _) (Nat.le_trans HX.out.bd (Nat.le_of_lt (blk_lt HX.out.blk))) hml ?_
            intro v6 w6 hr6 hb6 hg6 ho6
            have hgx : some rb ≠ (Value.slice A L.length c).ownBlock := fun q => HX.out.apart q.symm
            have h6 := blk_grown HX.out.blk hg6 hgx
            have HP := Aside0.mk (HX.out.grow (M := L ++ [⟨k, 0, d, false⟩]) (by rw [flatF_snoc, List.length_append]; exact hr6) hg6 ho6)
            have c1 := (blk_cell h6 1).trans (Eq.refl (some (Value.slice A L.length c)))
            have cf := blk_frozen h6
            obtain ⟨A6, c6, rfl⟩ := own_slice hr6
            clear hr6 hb6 hg6 ho6 hgx h6)
          go_ret2
          exact ⟨rfl, RPost.after (Fr.of_below B2.out _) HP.out⟩
      · rw [hlo, if_neg hfull]
        have hge : decide ((L.length : Int) ≥ n) = true := decide_eq_true (by omega)
        clear hlo hfull
        unfold ptr at HF ⊢
        go_enter Try.func36, Try.ntmps36
        go_wp2_with fail
        refine (HR.out _).mono ?_
        rintro e w0 ⟨rfl, rfl⟩
        go_wp2_with fail
        refine HF.out.mono ?_
        rintro e w1 ⟨rfl, hb⟩
        have B2 : Aside0 (Below w0.heap.size w0 w1.drew) := ⟨below_drew1 hb⟩
        have HY := Aside0.mk (H0.out.below B2.out)
        have a1 := (H0.out.below hb).c1
        have a0 := (H0.out.below hb).c0
        have c1 := HY.out.c1
        have c0 := HY.out.c0
        clear hb HF
        go_wp2_with fail
        go_region
        all_goals
          generalize w1.drew = W2 at B2 HY c1 c0 ⊢
          clear a1 a0
          go_wp2_with fail
          go_loopw [9] (fun z wi => ∃ j : Nat, j ≤ L.length ∧ z = .int .i64 j ∧ Aside0 ((∀ (i : Nat) x, L[i]? = some x → i < j → free x = false) ∧ Below W2.heap.size W2 wi)) (fun z _ => L.length - (intOf z).toNat)
          case atStart => exact ⟨0, by omega, rfl, ⟨fun i x _ hi => by omega, Below.refl _ _⟩⟩
          case round =>
            obtain ⟨j, hj, rfl, I⟩ := hrel
            clear c1 c0
            have HZ := Aside0.mk (HY.out.below I.out.2)
            have c1 := HZ.out.c1
            by_cases hlj : j < L.length
            · obtain ⟨x, hx⟩ : ∃ x, L[j]? = some x := ⟨_, List.getElem?_eq_getElem hlj⟩
              have hb2 : decide ((j : Int) < (L.length : Int)) = true := decide_eq_true (by omega)
              have hj2 : (j : Int) < (L.length : Int) := by omega
              have HLJ := Aside0.mk hlj
              obtain ⟨g, rfl, x0, x1, x2, x3⟩ := frow_at HZ.out.row hx
              have HX := Aside0.mk hx
              have hp0 := (HPin.out x (List.mem_of_getElem? hx)).1
              clear hx
              have hcase : (decide (x.p > 0) = true ∧ free x = false) ∨ (decide (x.p > 0) = false ∧ x.y = true ∧ free x = false) ∨ (decide (x.p > 0) = false ∧ x.y = false ∧ free x = true) := by
                unfold free
                rcases Int.lt_or_eq_of_le hp0 with hq | hq
                · exact .inl ⟨decide_eq_true hq, by rw [decide_eq_false (by omega)]; rfl⟩
                · have h1 : decide (x.p > 0) = false := decide_eq_false (by omega)
                  have h2 : decide (x.p = 0) = true := decide_eq_true hq.symm
                  cases hy : x.y with
                  | true => exact .inr (.inl ⟨h1, rfl, by rw [h2]; rfl⟩)
                  | false => exact .inr (.inr ⟨h1, rfl, by rw [h2]; rfl⟩)
              clear hp0
              have hstep : Aside0 (free x = false → (∀ (i : Nat) z, L[i]? = some z → i < j + 1 → free z = false) ∧ Below W2.heap.size W2 wr) := ⟨fun hfx => ⟨fun i z hz hi => by
                rcases Nat.lt_or_eq_of_le (Nat.le_of_lt_succ hi) with q | q
                · exact I.out.1 i z hz q
                · subst q
                  rw [HX.out] at hz
                  cases hz
                  exact hfx, I.out.2⟩⟩
              rcases hcase with ⟨g1, g2⟩ | ⟨g1, g2, g3⟩ | ⟨g1, g2, g3⟩
              · have I2 := Aside0.mk (hstep.out g2)
                clear g2 hstep
                go_wp2_with fail
                go_roundw
                case rel => exact ⟨j + 1, HLJ.out, rfl, I2⟩
                case measure => exact meas2 j L.length HLJ.out
              · have I2 := Aside0.mk (hstep.out g3)
                clear g3 hstep
                rw [g2] at x3
                clear g2
                go_wp2_with fail
                go_roundw
                case rel => exact ⟨j + 1, HLJ.out, rfl, I2⟩
                case measure => exact meas2 j L.length HLJ.out
              · have hfind := free_some HX.out g3 (fun i z hi hz => I.out.1 i z hz hi)
                have hev : evictS L k d = (L.eraseIdx j ++ [⟨k, 0, d, false⟩], x.b, 0) := by unfold evictS; rw [hfind]; dsimp only; rw [rest_erase HN.out HX.out]
                have HEV := Aside0.mk hev
                clear hfind hev hstep g3
                rw [g2] at x3
                clear g2
                have hne : ((j : Int) == (L.length : Int)) = false := beq_eq_false_iff_ne.2 (by omega)
                clear hml
                have hml : ((L.eraseIdx j).length + 1) * 40 ≤ 140737488355328 := room7 (Nat.le_trans (List.length_eraseIdx_le _ _) HL.out)
                go_wp2_with fail
                refine (rwithout_calls HZ.out.row HL.out j).mono ?_
                rintro e w4 ⟨u, rfl, hr, hb⟩
                have hS := HZ.out.setRowU (Nat.le_refl _) hb hr
                have c1' := (HZ.out.below hb).c1
                have cf' := blk_frozen (HZ.out.below hb).blk
                obtain ⟨A4, c4, rfl⟩ := own_slice hr
                have HX2 := Aside0.mk hS.1
                have HFr := Aside0.mk hS.2
                clear hr hb hS x0 x1 x2 x3 c1
                go_upto_region 14 with fail
                clear c1' cf'
                have HX := HX2
                generalize w4.setCell ⟨rb, 1, none⟩ (.slice A4 (L.eraseIdx j).length c4) = W5 at HX HFr ⊢
                clear HX2
                have c1 := HX.out.c1
                go_wp2_with (
                  at_builtin
                  refine print_append_cells B rfl (.tmp 86) (.tmp 90) 75 83 (.agg #[.int .i64 0, .int .i64 0, .string ⟨#[]⟩, .bool false]) 4 40 rfl Try.underlying75 infoF rfl (by decide) (by decide) _ _ _ (encF ⟨k, 0, d, false⟩) rfl rfl rfl (one_frame ⟨k, 0, d, false⟩) HX.out.row (Below.refl _ _) (Nat.le_trans HX.out.bd (Nat.le_of_lt (blk_lt HX.out.blk))) hml ?_
                  intro v6 w6 hr6 hb6 hg6 ho6
                  have hgx : some rb ≠ (Value.slice A4 (L.eraseIdx j).length c4).ownBlock := fun q => HX.out.apart q.symm
                  have h6 := blk_grown HX.out.blk hg6 hgx
                  have HP := Aside0.mk (HX.out.grow (M := L.eraseIdx j ++ [⟨k, 0, d, false⟩]) (by rw [flatF_snoc, List.length_append]; exact hr6) hg6 ho6)
                  have c1 := (blk_cell h6 1).trans (Eq.refl (some (Value.slice A4 (L.eraseIdx j).length c4)))
                  have cf := blk_frozen h6
                  obtain ⟨A6, c6, rfl⟩ := own_slice hr6
                  clear hr6 hb6 hg6 ho6 hgx h6)
                go_ret2
                rw [HEV.out]
                exact ⟨rfl, RPost.after (Fr.of_below B2.out _) (RPost.after (Fr.of_below I.out.2 _) (RPost.next HFr.out.1 HFr.out.2 HP.out))⟩
            · obtain rfl : j = L.length := by omega
              have hb2 : decide ((L.length : Int) < (L.length : Int)) = false := decide_eq_false (by omega)
              have hno : L.find? free = none := free_none fun i x hx => I.out.1 i x hx (List.getElem?_eq_some_iff.1 hx).1
              have hev : evictS L k d = (L, 0, 5) := by unfold evictS; rw [hno]
              have HEV := Aside0.mk hev
              clear hno hev
              go_wp2_with fail
              go_ret2
              rw [HEV.out]
              exact ⟨rfl, RPost.after (Fr.of_below B2.out _) (HY.out.stay I.out.2)⟩
end
end Go.Proofs.Ytikefafpkclgeaa.Cache
