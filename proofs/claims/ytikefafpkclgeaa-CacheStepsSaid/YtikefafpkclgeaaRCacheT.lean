/- The document's cache: Held, Dirty, Take. -/
import Derived.Test.YtikefafpkclgeaaRCacheP
set_option linter.unusedVariables false
set_option linter.unusedSimpArgs false
namespace Go.Proofs.Ytikefafpkclgeaa.Cache
open Go.RowKit Go.Proofs.YtikefafpkclgeaaW.PrintWords Go.Proofs.YtikefafpkclgeaaW.PrintLast Go.Proofs.YtikefafpkclgeaaW.PrintMore Go.Proofs.Ytikefafpkclgeaa.Maps Go.Proofs.Ytikefafpkclgeaa.CacheS
theorem infoI : (Try.prog.info? 3).map (fun i => (i.zero, i.size, i.bytes)) = some (some (.int .i64 0), 1, 8) := by kernel_rfl
theorem room8 {n : Nat} (h1 : n ≤ 1024) : (n + 1) * 8 ≤ 140737488355328 := by omega
theorem held_next {L : List F} {j : Nat} {x : F} (hx : L[j]? = some x) : heldS (L.take (j + 1)) = heldS (L.take j) ++ [x.b] := by
  unfold heldS
  rw [List.take_add_one, hx, Option.toList_some, List.map_append]
  rfl
theorem held_len (L : List F) (j : Nat) : (heldS (L.take j)).length ≤ j := by
  unfold heldS
  rw [List.length_map, List.length_take]
  omega
theorem one_int (k : Int) : ∀ u ∈ [Value.int .i64 k], u.oneCell' = true := by
  intro u hu
  simp at hu
  subst hu
  rfl
section
variable {B rb : Nat} {w w1 w' : World} {v u : Value} {n : Int} {L L' : List F}
set_option maxHeartbeats 6400000 in
set_option maxRecDepth 100000 in
theorem rheld_calls (h : RIs B w rb v n L) (hl : L.length ≤ 64) : Calls Try.prog 19 #[ptr rb] w fun e w' => ∃ u, e = .returned u ∧ w'.ownsRow w.heap.size 3 1 u (heldS L).length ((heldS L).map (Value.int .i64)) ∧ Below w.heap.size w w' := by
  have hup := Try.underlying43
  have hu := Try.underlying77
  have huf := Try.underlying83
  obtain ⟨A, c, rfl⟩ := h.slice
  have H0 := Aside0.mk h
  have HL : Aside0 (L.length ≤ 1024) := ⟨by omega⟩
  have c1 := h.c1
  clear h hl
  unfold ptr
  go_enter Try.func19, Try.ntmps19
  go_wp2_with fail
  go_loopw [3, 11] (fun v3 z wi => ∃ j : Nat, j ≤ L.length ∧ z = .int .i64 j ∧ Aside0 (wi.ownsRow w.heap.size 3 1 v3 (heldS (L.take j)).length ((heldS (L.take j)).map (Value.int .i64)) ∧ Below w.heap.size w wi)) (fun _ z _ => L.length - (intOf z).toNat)
  case atStart => exact ⟨0, by omega, rfl, ⟨own_nil _ _ _ _, Below.refl _ _⟩⟩
  case round =>
    obtain ⟨j, hj, rfl, I⟩ := hrel
    obtain ⟨A5, c5, rfl⟩ := own_slice I.out.1
    by_cases hlj : j < L.length
    · obtain ⟨x, hx⟩ : ∃ x, L[j]? = some x := ⟨_, List.getElem?_eq_getElem hlj⟩
      have hb2 : decide ((j : Int) < (L.length : Int)) = true := decide_eq_true (by omega)
      obtain ⟨g, rfl, x0, x1, x2, x3⟩ := frow_at (own_below H0.out.row I.out.2) hx
      have PX := Aside0.mk (blk_new wr (.cells #[.int .i64 x.b, .int .i64 x.p, .string x.d, .bool x.y] 83))
      have hbx := below_alloc (Below.refl wr.heap.size wr) (.cells #[.int .i64 x.b, .int .i64 x.p, .string x.d, .bool x.y] 83)
      have I2 := Aside0.mk (And.intro (own_below I.out.1 hbx) (I.out.2.trans (hbx.mono I.out.2.size)))
      have N1 := Aside0.mk (nxt j L.length hlj HL.out)
      have M1 := Aside0.mk (meas j L.length hlj HL.out)
      have hml := room8 (Nat.le_trans (Nat.le_trans (held_len L j) hj) HL.out)
      have hE := Aside0.mk (held_next hx)
      clear hx hbx
      go_upto_region 5 with fail
      generalize wr.alloc (.cells #[.int .i64 x.b, .int .i64 x.p, .string x.d, .bool x.y] 83) = W9 at PX I2 ⊢
      generalize wr.heap.size = b9 at PX ⊢
      clear x0 x1 x2 x3 I
      have p0 := (blk_cell PX.out 0).trans (Eq.refl (some (Value.int .i64 x.b)))
      go_wp2_with (
        at_builtin
        refine print_append_cells w.heap.size rfl (.tmp 15) (.tmp 18) 41 3 (.int .i64 0) 1 8 rfl Try.underlying41 infoI rfl (by decide) (by decide) _ _ _ [.int .i64 x.b] rfl rfl rfl (one_int x.b) I2.out.1 I2.out.2 I2.out.2.size hml ?_
        intro v6 w6 hr6 hb6 hg6 ho6
        have I6 := Aside0.mk (And.intro hr6 hb6)
        clear hr6 hb6 hg6 ho6 p0)
      go_roundw
      case rel => exact ⟨j + 1, hlj, N1.out, ⟨by rw [hE.out, List.map_append, List.length_append]; exact I6.out.1, I6.out.2⟩⟩
      case measure => exact M1.out
    · obtain rfl : j = L.length := by omega
      have hb2 : decide ((L.length : Int) < (L.length : Int)) = false := decide_eq_false (by omega)
      have hr := I.out.1
      rw [List.take_length] at hr
      have R := Aside0.mk (And.intro hr I.out.2)
      clear hr I
      rw [List.take_length]
      go_wp2_with fail
      go_ret
      exact ⟨_, rfl, R.out.1, R.out.2⟩
set_option maxHeartbeats 6400000 in
set_option maxRecDepth 100000 in
theorem rdirty_calls (h : RIs B w rb v n L) (hn : (L.map F.b).Nodup) (hl : L.length ≤ 64) (hr : ∀ f ∈ L, 0 ≤ f.b ∧ f.b < 1024) : Calls Try.prog 21 #[ptr rb] w fun e w' => ∃ u, e = .returned u ∧ w'.ownsRow w.heap.size 37 2 u (dirtyS L).length (flatC (dirtyS L)) ∧ Below w.heap.size w w' := by
  have hup := Try.underlying43
  have hu := Try.underlying77
  have huf := Try.underlying83
  have huc := Try.underlying37
  obtain ⟨A, c, rfl⟩ := h.slice
  have H0 := Aside0.mk h
  have HL := Aside0.mk hl
  have HN := Aside0.mk hn
  have HA := Aside0.mk (dirty_all hn hr)
  have HAt := Aside0.mk allK_at
  have HAl := Aside0.mk allK_len
  clear h hl hn hr
  generalize allK = K at HA HAt HAl
  unfold ptr
  go_enter Try.func21, Try.ntmps21
  go_wp2_with fail
  go_loopw [3, 4] (fun v3 z wi => ∃ j : Nat, j ≤ 1024 ∧ z = .int .i64 j ∧ Aside0 (wi.ownsRow w.heap.size 37 2 v3 (dUp L K j).length (flatC (dUp L K j)) ∧ Below w.heap.size w wi)) (fun _ z _ => 1024 - (intOf z).toNat)
  case atStart => exact ⟨0, by omega, rfl, ⟨by rw [dUp_zero]; exact own_nil _ _ _ _, Below.refl _ _⟩⟩
  case round =>
    obtain ⟨j, hj, rfl, I⟩ := hrel
    obtain ⟨A5, c5, rfl⟩ := own_slice I.out.1
    by_cases hlj : j < 1024
    · have hb2 : decide ((j : Int) < 1024) = true := decide_eq_true (by omega)
      have N1 := Aside0.mk (nxt j 1024 hlj (Nat.le_refl _))
      have M1 := Aside0.mk (meas j 1024 hlj (Nat.le_refl _))
      have M2 := Aside0.mk (meas2 j 1024 hlj)
      have hml := room6 (Nat.le_trans (dUp_len L K j) hj)
      have hK := HAt.out j hlj
      have HB := H0.out.below I.out.2
      cases hf : fnd F.b L (j : Int) with
      | none =>
        have hE := Aside0.mk (dUp_miss hK (show dsel L (j : Int) = none by unfold dsel; rw [hf]; rfl))
        have HF := Aside0.mk (rfind_no HB HL.out hf)
        unfold ptr at HF
        clear hK hf HB
        go_wp2_with fail
        refine HF.out.mono ?_
        rintro e w1 ⟨rfl, hb⟩
        have I2 := Aside0.mk (And.intro (own_below I.out.1 hb) (I.out.2.trans (hb.mono I.out.2.size)))
        clear hb HF I
        go_wp2_with fail
        go_roundw
        case rel => exact ⟨j + 1, hlj, by first | exact N1.out | rfl, ⟨by rw [hE.out]; exact I2.out.1, I2.out.2⟩⟩
        case measure => first | exact M1.out | exact M2.out
      | some f =>
        obtain ⟨i, hi, hfb⟩ := place hf
        have hil : (i : Int) < (L.length : Int) := by have := (List.getElem?_eq_some_iff.1 hi).1; omega
        have hi0 : decide ((i : Int) ≥ 0) = true := decide_eq_true (by omega)
        have hF := rfind_yes HB HN.out HL.out hi
        rw [hfb] at hF
        have HF := Aside0.mk hF
        unfold ptr at HF
        have hd : dsel L (j : Int) = if f.y = true then some ((j : Int), f.d) else none := by unfold dsel; rw [hf]; rfl
        have HI := Aside0.mk hi
        clear hf HB hF hi hfb
        go_wp2_with fail
        refine HF.out.mono ?_
        rintro e w1 ⟨rfl, hb⟩
        have I2 := Aside0.mk (And.intro (own_below I.out.1 hb) (I.out.2.trans (hb.mono I.out.2.size)))
        clear hb HF I
        have H1 := H0.out.below I2.out.2
        obtain ⟨g, rfl, x0, x1, x2, x3⟩ := frow_at H1.row HI.out
        have c1 := H1.c1
        clear H1
        cases hy : f.y with
        | true =>
          rw [hy] at x3
          have hE := Aside0.mk (dUp_hit hK (hd.trans (if_pos hy)))
          clear hK hd hy
          go_wp2_with (
            at_builtin
            refine print_append_cells w.heap.size rfl (.tmp 25) (.tmp 36) 34 37 (.agg #[.int .i64 0, .string ⟨#[]⟩]) 2 24 rfl Try.underlying34 infoCh rfl (by decide) (by decide) _ _ _ (encC ((j : Int), f.d)) rfl rfl rfl (one_change ((j : Int), f.d)) I2.out.1 I2.out.2 I2.out.2.size hml ?_
            intro v6 w6 hr6 hb6 hg6 ho6
            have I6 := Aside0.mk (And.intro hr6 hb6)
            clear hr6 hb6 hg6 ho6 x0 x1 x2 x3 c1)
          go_roundw
          case rel => exact ⟨j + 1, hlj, by first | exact N1.out | rfl, ⟨by rw [hE.out, flatC_snoc, List.length_append]; exact I6.out.1, I6.out.2⟩⟩
          case measure => first | exact M1.out | exact M2.out
        | false =>
          rw [hy] at x3
          have hE := Aside0.mk (dUp_miss hK (hd.trans (if_neg (by rw [hy]; decide))))
          clear hK hd hy
          go_wp2_with fail
          go_roundw
          case rel => exact ⟨j + 1, hlj, by first | exact N1.out | rfl, ⟨by rw [hE.out]; exact I2.out.1, I2.out.2⟩⟩
          case measure => first | exact M1.out | exact M2.out
    · have hje : j = K.length := by rw [HAl.out]; omega
      have hb2 : decide ((j : Int) < 1024) = false := decide_eq_false (by omega)
      have hr := I.out.1
      have hE : dUp L K j = dirtyS L := by rw [hje, dUp_all]; exact HA.out
      rw [hE] at hr ⊢
      have R := Aside0.mk (And.intro hr I.out.2)
      clear hr I hE hje
      go_wp2_with fail
      go_ret
      exact ⟨_, rfl, R.out.1, R.out.2⟩
set_option maxHeartbeats 6400000 in
set_option maxRecDepth 100000 in
theorem rtake_calls (h : RIs B w rb v n L) (hn : (L.map F.b).Nodup) (hl : L.length ≤ 64) (hr : ∀ f ∈ L, 0 ≤ f.b ∧ f.b < 1024) : Calls Try.prog 41 #[ptr rb] w fun e w' => ∃ u, e = .returned u ∧ w'.ownsRow w.heap.size 37 2 u (tookS L).length (flatC (tookS L)) ∧ RPost B rb v n w (takeS L) w' := by
  have hup := Try.underlying43
  have hu := Try.underlying77
  have huf := Try.underlying83
  have huc := Try.underlying37
  obtain ⟨A0, c0, rfl⟩ := h.slice
  have HD := Aside0.mk (rdirty_calls h hn hl hr)
  have H0 := Aside0.mk h
  have HL := Aside0.mk hl
  have HN := Aside0.mk hn
  have HTk : Aside0 (takeS L = cleanS L ((tookS L).map (·.1))) := ⟨rfl⟩
  have HMem : Aside0 (∀ c ∈ tookS L, ∃ f ∈ L, f.b = c.1) := ⟨fun c hc => by
    obtain ⟨f, hf, h1, _⟩ := dirty_mem (List.mem_of_mem_take hc)
    exact ⟨f, hf, h1⟩⟩
  have HS : Aside0 (tookS L = (dirtyS L).take 48) := ⟨rfl⟩
  generalize dirtyS L = D at HD HS
  generalize tookS L = S at HS HTk HMem ⊢
  clear h hl hn hr
  unfold ptr at *
  go_enter Try.func41, Try.ntmps41
  go_wp2_with fail
  refine HD.out.mono ?_
  rintro e w2 ⟨v, rfl, hr, hb⟩
  obtain ⟨A, c, rfl⟩ := own_slice hr
  have hcap0 := own_cap hr
  by_cases hlen : 48 < D.length
  · have g1 : decide ((D.length : Int) > 48) = true := decide_eq_true (by omega)
    have hcap : (48 : Int) ≤ (c : Int) := by omega
    have HSl : Aside0 (S.length = 48) := ⟨by rw [HS.out, List.length_take]; omega⟩
    have HQQ : Aside0 (48 ≤ 1024) := ⟨by decide⟩
    have T0 : Aside0 (w2.ownsRow w.heap.size 37 2 (.slice A 48 c) 48 (flatC S) ∧ RIs B w2 rb (.slice A0 L.length c0) n (cleanS L ((S.take 0).map (·.1))) ∧ Fr w w2 (rf rb (.slice A0 L.length c0))) := ⟨by rw [HS.out, flatC_take]; exact own_cut hr (Nat.le_of_lt hlen), by rw [List.take_zero]; show RIs B w2 rb _ n (cleanS L []); rw [cleanS_nil]; exact H0.out.below hb, Fr.of_below hb _⟩
    clear hr hb HD hcap0 hlen
    go_wp2_with fail
    go_loopw [16] (fun z wi => ∃ j : Nat, j ≤ 48 ∧ z = .int .i64 j ∧ Aside0 (wi.ownsRow w.heap.size 37 2 (.slice A 48 c) 48 (flatC S) ∧ RIs B wi rb (.slice A0 L.length c0) n (cleanS L ((S.take j).map (·.1))) ∧ Fr w wi (rf rb (.slice A0 L.length c0)))) (fun z _ => 48 - (intOf z).toNat)
    case atStart => exact ⟨0, by omega, rfl, T0⟩
    case round =>
      obtain ⟨j, hj, rfl, H⟩ := hrel
      clear T0
      by_cases hlj : j < 48
      · obtain ⟨x, hx⟩ : ∃ x, S[j]? = some x := ⟨_, List.getElem?_eq_getElem (by have := HSl.out; omega)⟩
        have hb2 : decide ((j : Int) < (48 : Int)) = true := decide_eq_true (by omega)
        have hj2 : (j : Int) < (48 : Int) := by omega
        obtain ⟨g, rfl, x0, x1⟩ := crow_at H.out.1 hx
        have PX := Aside0.mk (blk_new wr (.cells #[.int .i64 x.1, .string x.2] 37))
        have hbx := below_alloc (Below.refl wr.heap.size wr) (.cells #[.int .i64 x.1, .string x.2] 37)
        have H2 := Aside0.mk (And.intro (own_below H.out.1 hbx) (And.intro (H.out.2.1.below hbx) (H.out.2.2.trans (Fr.of_below hbx (fun _ => False)) (fun _ h => h.elim))))
        have N1 := Aside0.mk (nxt j 48 hlj HQQ.out)
        have M1 := Aside0.mk (meas j 48 hlj HQQ.out)
        have M2 := Aside0.mk (meas2 j 48 hlj)
        have HX := Aside0.mk hx
        clear hx hbx
        go_upto_region 7 with fail
        generalize wr.alloc (.cells #[.int .i64 x.1, .string x.2] 37) = W9 at PX H2 ⊢
        generalize wr.heap.size = b9 at PX ⊢
        clear x0 x1 H
        have p0 := (blk_cell PX.out 0).trans (Eq.refl (some (Value.int .i64 x.1)))
        have hnj : ((cleanS L ((S.take j).map (·.1))).map F.b).Nodup := by rw [cleanS_b]; exact HN.out
        have hlen : (cleanS L ((S.take j).map (·.1))).length = L.length := by unfold cleanS; rw [List.length_map]
        obtain ⟨f, i, hi, hfb⟩ : ∃ f, ∃ i : Nat, (cleanS L ((S.take j).map (·.1)))[i]? = some f ∧ f.b = x.1 := by
          obtain ⟨f0, hf0, q⟩ := HMem.out x (List.mem_of_getElem? HX.out)
          have h1 : x.1 ∈ (cleanS L ((S.take j).map (·.1))).map F.b := by rw [cleanS_b]; exact q ▸ List.mem_map_of_mem hf0
          obtain ⟨f, hf, q2⟩ := List.mem_map.1 h1
          obtain ⟨i, hi⟩ := List.getElem?_of_mem hf
          exact ⟨f, i, hi, q2⟩
        have hF := rfind_yes H2.out.2.1 hnj (by rw [hlen]; exact HL.out) hi
        rw [hfb] at hF
        have HF := Aside0.mk hF
        have HI := Aside0.mk hi
        have HFB := Aside0.mk hfb
        have HNJ := Aside0.mk hnj
        have hil : (i : Int) < (L.length : Int) := by have := (List.getElem?_eq_some_iff.1 hi).1; omega
        unfold ptr at HF
        clear hF hi hfb hnj hlen
        go_wp2_with fail
        refine HF.out.mono ?_
        rintro e w5 ⟨rfl, hb⟩
        have H5 := Aside0.mk (And.intro (own_below H2.out.1 hb) (And.intro (H2.out.2.1.below hb) (H2.out.2.2.trans (Fr.of_below hb (fun _ => False)) (fun _ h => h.elim))))
        clear hb HF p0 H2
        obtain ⟨g5, c5, e5, h6, F6, z6⟩ := H5.out.2.1.setF (j := 3) (x' := { f with y := false }) (u := .bool false) HI.out (by decide) rfl
        obtain ⟨g0, hA0, y0, y1, y2, y3⟩ := frow_at H5.out.2.1.row HI.out
        subst hA0
        simp only [Value.slice.injEq] at e5
        obtain ⟨e5, -, -⟩ := e5
        obtain rfl : g0 = g5 := by simpa using e5
        have c1 := H5.out.2.1.c1
        have hg0 : g0 < w.heap.size := H0.out.lt g0 (.inr rfl)
        have HT : Aside0 ((w5.setCell ⟨g0, i * 4 + 3, none⟩ (.bool false)).ownsRow w.heap.size 37 2 (.slice (some ⟨g, 0, none⟩) 48 c) 48 (flatC S) ∧ RIs B (w5.setCell ⟨g0, i * 4 + 3, none⟩ (.bool false)) rb (.slice (some ⟨g0, 0, none⟩) L.length c0) n (cleanS L ((S.take (j + 1)).map (·.1))) ∧ Fr w (w5.setCell ⟨g0, i * 4 + 3, none⟩ (.bool false)) (rf rb (.slice (some ⟨g0, 0, none⟩) L.length c0))) := ⟨by
          refine ⟨own_keep H5.out.1 fun k hk _ => Below.heap_setCell w5 ⟨g0, i * 4 + 3, none⟩ _ k (fun e => by have e : k = g0 := e; omega), ?_, H5.out.2.2.trans F6 (fun k hk => .inl hk)⟩
          have hlist : (S.take (j + 1)).map (·.1) = (S.take j).map (·.1) ++ [x.1] := by rw [List.take_add_one, HX.out, Option.toList_some, List.map_append]; rfl
          rw [hlist, cleanS_next, ← HFB.out, ← mapB_set HNJ.out HI.out (fun f => { f with y := false })]
          exact h6⟩
        clear h6 F6 e5 hg0 H5
        go_wp2_with fail
        go_roundw
        case rel => exact ⟨j + 1, hlj, by first | exact N1.out | rfl, HT⟩
        case measure => first | exact M1.out | exact M2.out
      · obtain rfl : j = 48 := by omega
        have hb2 : decide ((48 : Int) < (48 : Int)) = false := decide_eq_false (by omega)
        have HE : Aside0 (wr.ownsRow w.heap.size 37 2 (.slice A 48 c) S.length (flatC S) ∧ RPost B rb (.slice A0 L.length c0) n w (takeS L) wr) := ⟨by
          obtain ⟨k1, k2, k3⟩ := H.out
          rw [List.take_of_length_le (by have := HSl.out; omega), ← HTk.out] at k2
          exact ⟨by first | exact k1 | (rw [HSl.out]; exact k1), k2.done k3⟩⟩
        clear H
        go_wp2_with fail
        go_ret
        exact ⟨_, rfl, HE.out.1, HE.out.2⟩
  · have g1 : decide ((D.length : Int) > 48) = false := decide_eq_false (by omega)
    have hSD : S = D := by rw [HS.out]; exact List.take_of_length_le (by omega)
    subst hSD
    have HSl : Aside0 (S.length = S.length) := ⟨rfl⟩
    have HQQ : Aside0 (S.length ≤ 1024) := ⟨by omega⟩
    have T0 : Aside0 (w2.ownsRow w.heap.size 37 2 (.slice A S.length c) S.length (flatC S) ∧ RIs B w2 rb (.slice A0 L.length c0) n (cleanS L ((S.take 0).map (·.1))) ∧ Fr w w2 (rf rb (.slice A0 L.length c0))) := ⟨hr, by rw [List.take_zero]; show RIs B w2 rb _ n (cleanS L []); rw [cleanS_nil]; exact H0.out.below hb, Fr.of_below hb _⟩
    clear hr hb HD hcap0 hlen
    go_wp2_with fail
    go_loopw [16] (fun z wi => ∃ j : Nat, j ≤ S.length ∧ z = .int .i64 j ∧ Aside0 (wi.ownsRow w.heap.size 37 2 (.slice A S.length c) S.length (flatC S) ∧ RIs B wi rb (.slice A0 L.length c0) n (cleanS L ((S.take j).map (·.1))) ∧ Fr w wi (rf rb (.slice A0 L.length c0)))) (fun z _ => S.length - (intOf z).toNat)
    case atStart => exact ⟨0, by omega, rfl, T0⟩
    case round =>
      obtain ⟨j, hj, rfl, H⟩ := hrel
      clear T0
      by_cases hlj : j < S.length
      · obtain ⟨x, hx⟩ : ∃ x, S[j]? = some x := ⟨_, List.getElem?_eq_getElem (by have := HSl.out; omega)⟩
        have hb2 : decide ((j : Int) < (S.length : Int)) = true := decide_eq_true (by omega)
        have hj2 : (j : Int) < (S.length : Int) := by omega
        obtain ⟨g, rfl, x0, x1⟩ := crow_at H.out.1 hx
        have PX := Aside0.mk (blk_new wr (.cells #[.int .i64 x.1, .string x.2] 37))
        have hbx := below_alloc (Below.refl wr.heap.size wr) (.cells #[.int .i64 x.1, .string x.2] 37)
        have H2 := Aside0.mk (And.intro (own_below H.out.1 hbx) (And.intro (H.out.2.1.below hbx) (H.out.2.2.trans (Fr.of_below hbx (fun _ => False)) (fun _ h => h.elim))))
        have N1 := Aside0.mk (nxt j S.length hlj HQQ.out)
        have M1 := Aside0.mk (meas j S.length hlj HQQ.out)
        have M2 := Aside0.mk (meas2 j S.length hlj)
        have HX := Aside0.mk hx
        clear hx hbx
        go_upto_region 7 with fail
        generalize wr.alloc (.cells #[.int .i64 x.1, .string x.2] 37) = W9 at PX H2 ⊢
        generalize wr.heap.size = b9 at PX ⊢
        clear x0 x1 H
        have p0 := (blk_cell PX.out 0).trans (Eq.refl (some (Value.int .i64 x.1)))
        have hnj : ((cleanS L ((S.take j).map (·.1))).map F.b).Nodup := by rw [cleanS_b]; exact HN.out
        have hlen : (cleanS L ((S.take j).map (·.1))).length = L.length := by unfold cleanS; rw [List.length_map]
        obtain ⟨f, i, hi, hfb⟩ : ∃ f, ∃ i : Nat, (cleanS L ((S.take j).map (·.1)))[i]? = some f ∧ f.b = x.1 := by
          obtain ⟨f0, hf0, q⟩ := HMem.out x (List.mem_of_getElem? HX.out)
          have h1 : x.1 ∈ (cleanS L ((S.take j).map (·.1))).map F.b := by rw [cleanS_b]; exact q ▸ List.mem_map_of_mem hf0
          obtain ⟨f, hf, q2⟩ := List.mem_map.1 h1
          obtain ⟨i, hi⟩ := List.getElem?_of_mem hf
          exact ⟨f, i, hi, q2⟩
        have hF := rfind_yes H2.out.2.1 hnj (by rw [hlen]; exact HL.out) hi
        rw [hfb] at hF
        have HF := Aside0.mk hF
        have HI := Aside0.mk hi
        have HFB := Aside0.mk hfb
        have HNJ := Aside0.mk hnj
        have hil : (i : Int) < (L.length : Int) := by have := (List.getElem?_eq_some_iff.1 hi).1; omega
        unfold ptr at HF
        clear hF hi hfb hnj hlen
        go_wp2_with fail
        refine HF.out.mono ?_
        rintro e w5 ⟨rfl, hb⟩
        have H5 := Aside0.mk (And.intro (own_below H2.out.1 hb) (And.intro (H2.out.2.1.below hb) (H2.out.2.2.trans (Fr.of_below hb (fun _ => False)) (fun _ h => h.elim))))
        clear hb HF p0 H2
        obtain ⟨g5, c5, e5, h6, F6, z6⟩ := H5.out.2.1.setF (j := 3) (x' := { f with y := false }) (u := .bool false) HI.out (by decide) rfl
        obtain ⟨g0, hA0, y0, y1, y2, y3⟩ := frow_at H5.out.2.1.row HI.out
        subst hA0
        simp only [Value.slice.injEq] at e5
        obtain ⟨e5, -, -⟩ := e5
        obtain rfl : g0 = g5 := by simpa using e5
        have c1 := H5.out.2.1.c1
        have hg0 : g0 < w.heap.size := H0.out.lt g0 (.inr rfl)
        have HT : Aside0 ((w5.setCell ⟨g0, i * 4 + 3, none⟩ (.bool false)).ownsRow w.heap.size 37 2 (.slice (some ⟨g, 0, none⟩) S.length c) S.length (flatC S) ∧ RIs B (w5.setCell ⟨g0, i * 4 + 3, none⟩ (.bool false)) rb (.slice (some ⟨g0, 0, none⟩) L.length c0) n (cleanS L ((S.take (j + 1)).map (·.1))) ∧ Fr w (w5.setCell ⟨g0, i * 4 + 3, none⟩ (.bool false)) (rf rb (.slice (some ⟨g0, 0, none⟩) L.length c0))) := ⟨by
          refine ⟨own_keep H5.out.1 fun k hk _ => Below.heap_setCell w5 ⟨g0, i * 4 + 3, none⟩ _ k (fun e => by have e : k = g0 := e; omega), ?_, H5.out.2.2.trans F6 (fun k hk => .inl hk)⟩
          have hlist : (S.take (j + 1)).map (·.1) = (S.take j).map (·.1) ++ [x.1] := by rw [List.take_add_one, HX.out, Option.toList_some, List.map_append]; rfl
          rw [hlist, cleanS_next, ← HFB.out, ← mapB_set HNJ.out HI.out (fun f => { f with y := false })]
          exact h6⟩
        clear h6 F6 e5 hg0 H5
        go_wp2_with fail
        go_roundw
        case rel => exact ⟨j + 1, hlj, by first | exact N1.out | rfl, HT⟩
        case measure => first | exact M1.out | exact M2.out
      · obtain rfl : j = S.length := by omega
        have hb2 : decide ((S.length : Int) < (S.length : Int)) = false := decide_eq_false (by omega)
        have HE : Aside0 (wr.ownsRow w.heap.size 37 2 (.slice A S.length c) S.length (flatC S) ∧ RPost B rb (.slice A0 L.length c0) n w (takeS L) wr) := ⟨by
          obtain ⟨k1, k2, k3⟩ := H.out
          rw [List.take_of_length_le (by have := HSl.out; omega), ← HTk.out] at k2
          exact ⟨by first | exact k1 | (rw [HSl.out]; exact k1), k2.done k3⟩⟩
        clear H
        go_wp2_with fail
        go_ret
        exact ⟨_, rfl, HE.out.1, HE.out.2⟩
end
end Go.Proofs.Ytikefafpkclgeaa.Cache
