/- The program's cache: Take. -/
import Derived.Test.YtikefafpkclgeaaCacheD
set_option linter.unusedVariables false
set_option linter.unusedSimpArgs false
namespace Go.Proofs.Ytikefafpkclgeaa.Cache
open Go.RowKit Go.Shelf Go.Proofs.YtikefafpkclgeaaW.PrintWords Go.Proofs.YtikefafpkclgeaaW.PrintLast Go.Proofs.YtikefafpkclgeaaW.PrintMore Go.Proofs.Ytikefafpkclgeaa.Maps Go.Proofs.Ytikefafpkclgeaa.CacheS
theorem own_cap {w : World} {base : Nat} {e : TypeId} {size : Nat} {A : Option Addr} {n k c : Nat} {xs : List Value} (h : w.ownsRow base e size (.slice A k c) n xs) : k ≤ c := by
  rcases h.2 with ⟨h1, h0⟩ | ⟨g, cap, cur, h1, _, _, hnc, _⟩
  · simp only [Value.slice.injEq] at h1; omega
  · simp only [Value.slice.injEq] at h1; omega
theorem own_cut {w : World} {base : Nat} {e : TypeId} {size : Nat} {A : Option Addr} {n c : Nat} {xs : List Value} (h : w.ownsRow base e size (.slice A n c) n xs) {m : Nat} (hm : m ≤ n) : w.ownsRow base e size (.slice A m c) m (xs.take (m * size)) := by
  refine ⟨by rw [List.length_take, h.1]; exact Nat.min_eq_left (Nat.mul_le_mul_right _ hm), ?_⟩
  rcases h.2 with ⟨h1, h0⟩ | ⟨g, cap, cur, h1, h2, h3, h4, h5, h6, h7⟩
  · simp only [Value.slice.injEq] at h1
    obtain ⟨rfl, rfl, rfl⟩ := h1
    obtain rfl : m = 0 := by omega
    exact .inl ⟨rfl, rfl⟩
  · simp only [Value.slice.injEq] at h1
    obtain ⟨rfl, -, rfl⟩ := h1
    refine .inr ⟨g, c, cur, rfl, h2, h3, by omega, h5, h6, ?_⟩
    rw [← h7, List.take_take]
    congr 1
    exact (Nat.min_eq_left (Nat.mul_le_mul_right _ hm)).symm
theorem cleanS_next (L : List F) (ks : List Int) (k : Int) : cleanS L (ks ++ [k]) = mapB (cleanS L ks) k (fun f => { f with y := false }) := by
  unfold cleanS mapB
  rw [List.map_map]
  refine List.map_congr_left fun f hf => ?_
  simp only [Function.comp_apply, List.mem_append, List.mem_singleton]
  by_cases h1 : f.b ∈ ks
  · rw [if_pos (Or.inl h1), if_pos h1]
    split <;> rfl
  · by_cases h2 : f.b = k
    · rw [if_pos (Or.inr h2), if_neg h1, if_pos h2]
    · rw [if_neg (fun q => q.elim h1 h2), if_neg h1, if_neg h2]
theorem meas2 (i n : Nat) (h : i < n) : n - (intOf (Value.int .i64 ((i : Int) + 1))).toNat < n - (intOf (Value.int .i64 (i : Int))).toNat := by
  simp [intOf]
  omega
theorem cleanS_nil (L : List F) : cleanS L [] = L := by unfold cleanS; simp
theorem cleanS_b (L : List F) (ks : List Int) : (cleanS L ks).map F.b = L.map F.b := by
  unfold cleanS
  rw [List.map_map]
  refine List.map_congr_left fun f hf => ?_
  simp only [Function.comp_apply]
  split <;> rfl
theorem dirty_mem {L : List F} {c : Int × ByteArray} (h : c ∈ dirtyS L) : ∃ f ∈ L, f.b = c.1 ∧ f.y = true ∧ f.d = c.2 := by
  unfold dirtyS at h
  obtain ⟨k, hk, hd⟩ := List.mem_filterMap.1 h
  unfold dsel at hd
  cases hf : fnd F.b L k with
  | none => rw [hf] at hd; cases hd
  | some f =>
    rw [hf] at hd
    obtain ⟨h1, h2⟩ := fnd_mem hf
    by_cases hy : f.y = true
    · have : c = (k, f.d) := by simpa [hy] using hd.symm
      subst this
      exact ⟨f, h1, h2, hy, rfl⟩
    · simp [hy] at hd
section
variable {B : Nat} {w w1 w' : World} {cb mb : Nat} {fr ck : Int} {T : Nat} {E E1 E' : List Ent}
/-- Behind j of the changes that are taken. -/
def Tk (B : Nat) (cb mb : Nat) (fr ck : Int) (T : Nat) (E : List Ent) (w : World) (S : List (Int × ByteArray)) (A : Option Addr) (m c j : Nat) (wi : World) : Prop :=
  wi.ownsRow w.heap.size 37 2 (.slice A m c) m (flatC S) ∧ Fr w wi (fp cb mb E) ∧ ∃ E', CIs B wi cb mb fr ck T E' ∧ E'.map Ent.f = cleanS (E.map Ent.f) ((S.take j).map (·.1)) ∧ ∀ k, fp cb mb E' k → fp cb mb E k
theorem crow_at {w : World} {base : Nat} {A : Option Addr} {m k c : Nat} {S : List (Int × ByteArray)} (h : w.ownsRow base 37 2 (.slice A k c) m (flatC S)) {i : Nat} {x : Int × ByteArray} (hx : S[i]? = some x) :
    ∃ g, A = some ⟨g, 0, none⟩ ∧ w.cell? ⟨g, i * 2, none⟩ = some (.int .i64 x.1) ∧ w.cell? ⟨g, i * 2 + 1, none⟩ = some (.string x.2) := by
  have h0 := flatC_at S i 0 x hx (by decide)
  have h1 := flatC_at S i 1 x hx (by decide)
  obtain ⟨g, cap, e0, c0⟩ := own_cell h (h0.trans rfl)
  obtain ⟨g', cap', e1, c1⟩ := own_cell h (h1.trans rfl)
  simp only [Value.slice.injEq] at e0 e1
  obtain ⟨rfl, -, -⟩ := e0
  have : g' = g := by simpa using e1.1.symm
  subst this
  exact ⟨g', rfl, c0, c1⟩
theorem clone_calls {w : World} {base : Nat} {A : Option Addr} {m c : Nat} {S : List (Int × ByteArray)} (h : w.ownsRow base 37 2 (.slice A m c) m (flatC S)) (hm : m ≤ 64) : Calls Try.prog 30 #[.slice A m c] w fun e w' => ∃ v, e = .returned v ∧ w'.ownsRow w.heap.size 37 2 v m (flatC S) ∧ Below w.heap.size w w' := by
  have hl := h.1
  have hcell := fun j u hj => own_cell (j := j) (u := u) h hj
  rcases h.2 with ⟨h1, h0⟩ | ⟨g, cap, cur, h1, _⟩
  · simp only [Value.slice.injEq] at h1
    obtain ⟨rfl, rfl, rfl⟩ := h1
    refine (AnyE.slices_Clone_nil LayC.clCh 0 0 w).mono ?_
    rintro e w' ⟨rfl, rfl⟩
    exact ⟨_, rfl, ⟨hl, .inl ⟨rfl, rfl⟩⟩, Below.refl _ _⟩
  · simp only [Value.slice.injEq] at h1
    obtain ⟨rfl, -, rfl⟩ := h1
    obtain ⟨i0, hi, hzz⟩ := Option.map_eq_some_iff.1 infoCh
    simp only [Prod.mk.injEq] at hzz
    obtain ⟨hz0, hz1, hz2⟩ := hzz
    refine (AnyE.slices_Clone LayC.clCh i0 _ 2 24 hi hz0 hz1 hz2 rfl (by decide) Try.sizeOf37 g 0 m c (flatC S) w hl (by unfold maxLen; omega) (by omega) (fun j u hj => ?_) (flatC_one S)).mono ?_
    · obtain ⟨g', cap', e1, hc⟩ := hcell j u hj
      simp only [Value.slice.injEq] at e1
      have : g' = g := by simpa using e1.1.symm
      subst this
      rw [Nat.zero_add]; exact hc
    · rintro e w' ⟨v, rfl, hr, _, hb⟩
      exact ⟨v, rfl, hr, hb⟩
set_option maxHeartbeats 6400000 in
set_option maxRecDepth 100000 in
theorem take_calls (h : CIs B w cb mb fr ck T E) : Calls Try.prog 12 #[ptr cb] w fun e w' => ∃ v, e = .returned v ∧ w'.ownsRow w.heap.size 37 2 v (tookS (E.map Ent.f)).length (flatC (tookS (E.map Ent.f))) ∧ ∃ E', E'.map Ent.f = takeS (E.map Ent.f) ∧ CIs B w' cb mb fr ck (T + 1) E' ∧ Fr w w' (fp cb mb E) ∧ ∀ k, fp cb mb E' k → fp cb mb E k := by
  have hpp := Try.underlying23
  have hu := Try.underlying57
  have hpf := Try.underlying59
  have hf := Try.underlying65
  have huc := Try.underlying37
  have HD := Aside0.mk (dirty_calls h)
  have HH := Aside0.mk h
  have HTk : Aside0 (takeS (E.map Ent.f) = cleanS (E.map Ent.f) ((tookS (E.map Ent.f)).map (·.1))) := ⟨rfl⟩
  have HMem : Aside0 (∀ c ∈ tookS (E.map Ent.f), ∃ e ∈ E, e.b = c.1) := ⟨fun c hc => by
    obtain ⟨f, hf, h1, _⟩ := dirty_mem (List.mem_of_mem_take hc)
    obtain ⟨e, he, rfl⟩ := List.mem_map.1 hf
    exact ⟨e, he, h1⟩⟩
  have hS : tookS (E.map Ent.f) = (dirtyS (E.map Ent.f)).take (min (dirtyS (E.map Ent.f)).length 48) := by
    unfold tookS
    rcases Nat.le_total (dirtyS (E.map Ent.f)).length 48 with hq | hq
    · rw [Nat.min_eq_left hq, List.take_length, List.take_of_length_le hq]
    · rw [Nat.min_eq_right hq]
  generalize dirtyS (E.map Ent.f) = D at HD hS
  generalize tookS (E.map Ent.f) = S at hS HTk HMem ⊢
  rw [HTk.out]
  obtain ⟨m, hmd⟩ : ∃ m, m = min D.length 48 := ⟨_, rfl⟩
  have hmin : min (D.length : Int) 48 = (m : Int) := by omega
  have hSl : S.length = m := by rw [hS, ← hmd, List.length_take]; omega
  have HSl := Aside0.mk hSl
  have HM : Aside0 (m ≤ D.length ∧ m ≤ 48) := ⟨by omega⟩
  have HS : Aside0 (flatC S = (flatC D).take (m * 2)) := ⟨by rw [hS, ← hmd, flatC_take]⟩
  rw [hSl]
  clear h hS hSl hmd
  unfold ptr at *
  go_enter Try.func12, Try.ntmps12
  go_wp2_with fail
  refine HD.out.mono ?_
  rintro e w2 ⟨v, rfl, hr, hb⟩
  obtain ⟨A, c, rfl⟩ := own_slice hr
  have hcap : (m : Int) ≤ (c : Int) := by have h1 := own_cap hr; have h2 := HM.out; omega
  have hm0 : (0 : Int) ≤ (m : Int) := by omega
  have T0 : Aside0 (Tk B cb mb fr ck T E w S A m c 0 w2) := ⟨by rw [HS.out]; exact own_cut hr HM.out.1, Fr.of_below hb _, E, HH.out.below hb, by rw [List.take_zero]; exact (cleanS_nil _).symm, fun k hk => hk⟩
  clear hr hb HD
  go_wp2_with fail
  go_loopw [15] (fun z wi => ∃ j : Nat, j ≤ m ∧ z = .int .i64 j ∧ Aside0 (Tk B cb mb fr ck T E w S A m c j wi)) (fun z _ => m - (intOf z).toNat)
  case atStart => exact ⟨0, by omega, rfl, T0⟩
  case round =>
    obtain ⟨j, hj, rfl, H⟩ := hrel
    clear T0
    by_cases hlj : j < m
    · obtain ⟨x, hx⟩ : ∃ x, S[j]? = some x := ⟨_, List.getElem?_eq_getElem (by have := HSl.out; omega)⟩
      have hb2 : decide ((j : Int) < (m : Int)) = true := decide_eq_true (by omega)
      have hj2 : (j : Int) < (m : Int) := by omega
      obtain ⟨g, rfl, x0, x1⟩ := crow_at H.out.1 hx
      have PX := Aside0.mk (blk_new wr (.cells #[.int .i64 x.1, .string x.2] 37))
      have hbx : Below wr.heap.size wr (wr.alloc (.cells #[.int .i64 x.1, .string x.2] 37)).drew := below_drew1 (below_alloc (Below.refl wr.heap.size wr) _)
      have N1 := Aside0.mk (nxt j m hlj (Nat.le_trans HM.out.2 (by decide)))
      have M1 := Aside0.mk (meas j m hlj (Nat.le_trans HM.out.2 (by decide)))
      have M2 := Aside0.mk (meas2 j m hlj)
      have HX := Aside0.mk hx
      have HBx := Aside0.mk hbx
      clear hx hbx
      go_upto_region 6 with fail
      clear x0 x1
      have H2 : Aside0 (Tk B cb mb fr ck T E w S (some ⟨g, 0, none⟩) m c j (wr.alloc (.cells #[.int .i64 x.1, .string x.2] 37)).drew) := ⟨by
        obtain ⟨k1, k2, E', k3, k4, k5⟩ := H.out
        exact ⟨own_below k1 HBx.out, k2.trans (Fr.of_below HBx.out (fun _ => False)) (fun _ h => h.elim), E', k3.below HBx.out, k4, k5⟩⟩
      have PD := Aside0.mk (blk_drew PX.out)
      generalize wr.alloc (.cells #[.int .i64 x.1, .string x.2] 37) = W9 at PX PD H2 ⊢
      generalize wr.heap.size = b9 at PX PD ⊢
      clear H HBx
      obtain ⟨k1, k2, E', k3, k4, k5⟩ := H2.out
      obtain ⟨e, he, hek⟩ : ∃ e ∈ E', e.b = x.1 := by
        obtain ⟨e0, he0, q⟩ := HMem.out x (List.mem_of_getElem? HX.out)
        have h1 : x.1 ∈ (E'.map Ent.f).map F.b := by
          rw [k4, cleanS_b, List.map_map]
          exact q ▸ List.mem_map_of_mem (f := F.b ∘ Ent.f) he0
        rw [List.map_map] at h1
        obtain ⟨e, he, q2⟩ := List.mem_map.1 h1
        exact ⟨e, he, q2⟩
      have c2 := k3.c2
      have P := k3.hel.cel e he
      unfold cells at P
      have y3 := (blk_cell P 3).trans (Eq.refl (some (Value.bool e.y)))
      have yf := blk_frozen P 3
      have q3 : (W9.drew.setCell ⟨e.a, 3, none⟩ (.bool false)).heap[e.a]? = some (.cells #[.int .i64 e.p, .int .i64 e.u, .string e.d, .bool false] 65 (0, 0)) := blk_put P 3 _ (by simp)
      obtain ⟨gm, g1, g2⟩ := k3.hel.look
      have hl1 := g1.lookup (KeyLaw.int Try.underlying3) Try.underlying55 (zero_fr W9.drew) x.1
      rw [g2, ← hek, look_hit k3 he, hek] at hl1
      unfold ptr at hl1
      have p0 := (blk_cell PD.out 0).trans (Eq.refl (some (Value.int .i64 x.1)))
      have HT : Aside0 (Tk B cb mb fr ck T E w S (some ⟨g, 0, none⟩) m c (j + 1) (W9.drew.setCell ⟨e.a, 3, none⟩ (.bool false))) := ⟨by
        have hfr := fr_set1 W9.drew e.a 3 (.bool false)
        have hea : fp cb mb E e.a := k5 e.a (.inr (.inr ⟨e, he, rfl⟩))
        obtain ⟨P', Q', rfl⟩ := List.append_of_mem he
        obtain ⟨t1, t2, t3⟩ := k3.turned (T' := T) (e' := { e with y := false }) (Nat.le_refl _) rfl rfl rfl (k3.pT e he) q3 hfr
        refine ⟨own_keep k1 fun k hk hl => hfr.block k hl (fun q => by
          have := HH.out.lt (k := k) (q ▸ hea); omega), k2.trans hfr (fun k hk => .inl (hk ▸ hea)), _, t1, ?_, fun k hk => k5 k (t3 k hk)⟩
        have hlist : (S.take (j + 1)).map (·.1) = (S.take j).map (·.1) ++ [x.1] := by rw [List.take_add_one, HX.out, Option.toList_some, List.map_append]; rfl
        rw [hlist, cleanS_next, ← k4, ← hek]
        exact mapB_one k3.hel.nb (fun f => { f with y := false }) rfl⟩
      clear k1 k2 k3 k4 k5 P q3 g1 g2 H2 he hek
      go_region
      all_goals
        go_wp2_with fail
        go_roundw
        case rel => exact ⟨j + 1, hlj, by first | exact N1.out | rfl, HT⟩
        case measure => first | exact M1.out | exact M2.out
    · obtain rfl : j = m := by omega
      have hb2 : decide ((j : Int) < (j : Int)) = false := decide_eq_false (by omega)
      have HC := Aside0.mk (clone_calls H.out.1 (Nat.le_trans HM.out.2 (by decide)))
      go_wp2_with fail
      refine HC.out.mono ?_
      rintro e w3 ⟨v, rfl, hr, hb⟩
      have HPo : Aside0 (w3.ownsRow w.heap.size 37 2 v j (flatC S) ∧ ∃ E', E'.map Ent.f = cleanS (E.map Ent.f) (S.map (·.1)) ∧ CIs B w3 cb mb fr ck (T + 1) E' ∧ Fr w w3 (fp cb mb E) ∧ ∀ k, fp cb mb E' k → fp cb mb E k) := ⟨by
        obtain ⟨k1, k2, E', k3, k4, k5⟩ := H.out
        refine ⟨own_mono hr k2.size, E', ?_, (k3.below hb).more (Nat.le_succ _), k2.trans (Fr.of_below hb (fun _ => False)) (fun _ h => h.elim), k5⟩
        rw [k4, List.take_of_length_le (by have := HSl.out; omega)]⟩
      obtain ⟨A2, c2, rfl⟩ := own_slice hr
      clear hr hb HC
      go_wp2_with fail
      go_ret
      exact ⟨_, rfl, HPo.out⟩
set_option maxHeartbeats 800000 in
set_option maxRecDepth 100000 in
theorem take_nil (w : World) : Calls Try.prog 12 #[.pointer none] w fun e w' => ∃ v, e = .returned v ∧ (∃ A c, v = .slice A 0 c) ∧ Below w.heap.size w w' := by
  have hpp := Try.underlying23
  go_enter Try.func12, Try.ntmps12
  go_wp2_with fail
  refine (dirty_nil w).mono ?_
  rintro e w1 ⟨rfl, hb⟩
  have HB := Aside0.mk hb
  have HC := Aside0.mk (clone_calls (S := []) (own_nil w1 0 37 2) (by omega))
  clear hb
  go_wp2_with fail
  go_loopw [15] (fun z wi => z = .int .i64 0 ∧ wi = w1) (fun _ _ => 0)
  case atStart => exact ⟨rfl, rfl⟩
  case round =>
    obtain ⟨rfl, rfl⟩ := hrel
    go_wp2_with fail
    refine HC.out.mono ?_
    rintro e w3 ⟨v, rfl, hr, hb⟩
    have HB2 := Aside0.mk (HB.out.trans (hb.mono HB.out.size))
    obtain ⟨A2, c2, rfl⟩ := own_slice hr
    have hA := Aside0.mk hr
    clear hr hb
    go_wp2_with fail
    go_ret
    exact ⟨_, rfl, ⟨_, _, rfl⟩, HB2.out⟩
end
end Go.Proofs.Ytikefafpkclgeaa.Cache
