/- The program's bag: List, Put, Twice, Deliver, Drop. -/
import Derived.Test.YtmledapichlhdaaBagL
set_option linter.unusedVariables false
set_option linter.unusedSimpArgs false
namespace Go.Proofs.Ytmledapichlhdaa.Bag
open Go.RowKit Go.Proofs.YtmledapichlhdaaW.PrintWords Go.Proofs.YtmledapichlhdaaW.PrintLast Go.Proofs.YtmledapichlhdaaW.PrintMore Go.Proofs.Ytmledapichlhdaa.Maps Go.Proofs.Ytmledapichlhdaa.BagS
theorem own_mono {w : World} {b b' : Nat} {e : TypeId} {size : Nat} {v : Value} {n : Nat} {xs : List Value} (h : w.ownsRow b' e size v n xs) (hb : b ≤ b') : w.ownsRow b e size v n xs := by
  refine ⟨h.1, ?_⟩
  rcases h.2 with h2 | ⟨g, cap, cur, hv, hg, rest⟩
  · exact .inl h2
  · exact .inr ⟨g, cap, cur, hv, by omega, rest⟩
theorem cnt_some (L : List Msg) (x : Msg) : (cnt L x).isSome = true ↔ x ∈ L := by
  unfold cnt
  by_cases h : L.count x = 0
  · rw [if_pos h]
    have := List.count_eq_zero.1 h
    simp [this]
  · rw [if_neg h]
    have : x ∈ L := by
      by_cases hx : x ∈ L
      · exact hx
      · exact absurd (List.count_eq_zero.2 hx) h
    simp [this]
theorem keys_calls (mb : Option Nat) (w : World) : Calls Try.prog 29 #[.map mb] w fun e w' => e = .returned (.func (.func 38) #[] #[.pointer (some ⟨w.heap.size, 0, none⟩)]) ∧ w' = w.alloc (.cells #[.map mb] 59) :=
  callsIn_wide.1 (keys_in Fence.wide 5 trivial rfl mb w)
theorem sorted_calls (w : World) (b Bm : Nat) (L : List Msg) (h : MapF w mv b (cnt L)) (hok : Ok L) (hm : w.cell? ⟨Bm, 0, none⟩ = some (.map (some b))) (hBm : Bm < w.heap.size) :
    Calls Try.prog 28 #[.func (.func 38) #[] #[.pointer (some ⟨Bm, 0, none⟩)], .func (.func 30) #[] #[]] w fun e w' => ∃ v, e = .returned v ∧ w'.ownsRow w.heap.size 30 3 v (uniq L).length (flat (uniq L)) ∧ Below w.heap.size w w' := by
  have hl := hok.len
  refine callsIn_wide.1 ((sorted_in 6 (by omega) 38 #[.pointer (some ⟨Bm, 0, none⟩)] (enters_of Try.func38 (by kernel_rfl) rfl) (fun xs => KeysOf (cnt L) xs ∧ xs.length ≤ L.length) (fun _ => True) L.length (by unfold maxLen; omega) (by omega) (fun xs hx => by have := hx.2; omega) w ?_).mono ?_)
  · have := keys_stops Fence.wide 3 trivial rfl (by omega) Bm b (cnt L) L (fun x hx => (cnt_some L x).1 hx) w hBm hm h
    intro l J Jx W hW hJ hJx hY h0
    refine (this l J Jx W hW hJ hJx hY h0).mono ?_
    rintro e W' ⟨hv, ⟨xs, hS, hj⟩ | h2⟩
    · exact ⟨hv, .inl ⟨xs, ⟨hS, nodup_len xs L hS.1 (fun x hx => (cnt_some L x).1 ((hS.2 x).1 hx))⟩, hj⟩⟩
    · exact ⟨hv, .inr h2⟩
  · rintro e w' ⟨v, xs, rfl, ⟨⟨hn, hmem⟩, _⟩, hrow, _, hb⟩
    have e1 : srt xs = uniq L := uniq_sort hok.srt hn (fun x => by rw [hmem, cnt_some])
    have e2 : xs.length = (uniq L).length := by rw [← e1]; unfold srt; rw [List.length_mergeSort]
    rw [e1, e2] at hrow
    exact ⟨v, rfl, hrow, hb⟩
section
variable {B : Nat} {w : World} {bb mb : Nat} {n : Int} {L : List Msg}
set_option maxHeartbeats 800000 in
set_option maxRecDepth 100000 in
theorem list_calls (h : BIs B w bb mb n L) : Calls Try.prog 11 #[ptr bb] w fun e w' => ∃ v, e = .returned v ∧ w'.ownsRow w.heap.size 30 3 v (uniq L).length (flat (uniq L)) ∧ Below w.heap.size w w' := by
  have hup := Try.underlying23
  have hu := Try.underlying61
  have c2 := h.c2
  have hb1 := below_alloc (Below.refl w.heap.size w) (.cells #[.map (some mb)] 59)
  have HS := Aside0.mk (sorted_calls (w.alloc (.cells #[.map (some mb)] 59)) mb w.heap.size L (h.below hb1).map h.ok ((blk_cell (blk_new w _) 0).trans rfl) (by simp))
  have HK := Aside0.mk (keys_calls (some mb) w)
  have HB1 := Aside0.mk hb1
  generalize uniq L = U at HS ⊢
  clear h hb1
  unfold ptr
  go_enter Try.func11, Try.ntmps11
  go_wp2_with fail
  refine HK.out.mono ?_
  rintro e w1 ⟨rfl, rfl⟩
  go_wp2_with fail
  refine HS.out.mono ?_
  rintro e w2 ⟨v, rfl, hr, hb⟩
  have HR := Aside0.mk (own_mono hr HB1.out.size)
  have HB := Aside0.mk (HB1.out.trans (hb.mono HB1.out.size))
  clear hr hb
  obtain ⟨A, c, rfl⟩ := own_slice HR.out
  go_wp2_with fail
  go_ret
  exact ⟨_, rfl, HR.out, HB.out⟩
set_option maxHeartbeats 800000 in
set_option maxRecDepth 100000 in
theorem node_calls (h : BIs B w bb mb n L) (g : Nat) (i : Int) (hg : w.cell? ⟨g, 0, none⟩ = some (ptr bb)) : Calls Try.prog 25 #[.int .i64 i, .pointer (some ⟨g, 0, none⟩)] w fun e w' => e = .returned (.bool (!decide (badN n i))) ∧ w' = w := by
  have hup := Try.underlying23
  have hu := Try.underlying61
  have c0 := h.c0
  have hb : (decide (i ≥ 0) = false ∧ (!decide (badN n i)) = false) ∨ (decide (i ≥ 0) = true ∧ (!decide (badN n i)) = decide (i < n)) := by
    by_cases h1 : i < 0
    · exact .inl ⟨decide_eq_false (by omega), by rw [decide_eq_true (show badN n i from .inl h1)]; rfl⟩
    · refine .inr ⟨decide_eq_true (by omega), ?_⟩
      by_cases h2 : i < n
      · rw [decide_eq_true h2, decide_eq_false (show ¬ badN n i from fun h => by rcases h with h | h <;> omega)]; rfl
      · rw [decide_eq_false h2, decide_eq_true (show badN n i from .inr (by omega))]; rfl
  unfold ptr at hg
  clear h
  rcases hb with ⟨h1, h2⟩ | ⟨h1, h2⟩
  all_goals
    rw [h2]
    clear h2
    go_enter Try.func25, Try.ntmps25
    go_wp2_with fail
    go_ret
    exact ⟨rfl, rfl⟩
set_option maxHeartbeats 3200000 in
set_option maxRecDepth 100000 in
theorem put_calls (h : BIs B w bb mb n L) (m : Msg) : Calls Try.prog 10 #[ptr bb, mv m] w (APost B bb mb n w (putS n L m)) := by
  have hup := Try.underlying23
  have hu := Try.underlying61
  have hum := Try.underlying30
  have hb1 := below_alloc (Below.refl w.heap.size w) (.cells #[ptr bb] 23)
  have hb2 := hb1.trans ((below_alloc (Below.refl _ (w.alloc (.cells #[ptr bb] 23))) (.cells #[.int .i64 m.1, .int .i64 m.2.1, .string m.2.2] 30)).mono hb1.size)
  obtain ⟨W2, hW2⟩ : ∃ W2, W2 = (w.alloc (.cells #[ptr bb] 23)).alloc (.cells #[.int .i64 m.1, .int .i64 m.2.1, .string m.2.2] 30) := ⟨_, rfl⟩
  have P1 : W2.heap[w.heap.size]? = some (.cells #[ptr bb] 23 (0, 0)) := by rw [hW2]; exact blk_alloc (blk_new w _) _
  have P2 : W2.heap[w.heap.size + 1]? = some (.cells #[.int .i64 m.1, .int .i64 m.2.1, .string m.2.2] 30 (0, 0)) := by
    rw [hW2]
    have := blk_new (w.alloc (.cells #[ptr bb] 23)) (.cells #[.int .i64 m.1, .int .i64 m.2.1, .string m.2.2] 30)
    simpa using this
  rw [← hW2] at hb2
  have H0 := Aside0.mk h
  have H2 := Aside0.mk (h.below hb2)
  have g0 : W2.cell? ⟨w.heap.size, 0, none⟩ = some (ptr bb) := (blk_cell P1 0).trans rfl
  have HN := Aside0.mk (fun i => node_calls H2.out w.heap.size i g0)
  have HB2 := Aside0.mk hb2
  have HP := Aside0.mk (And.intro P1 P2)
  unfold ptr at g0
  have d0 := (blk_cell P2 0).trans (Eq.refl (some (Value.int .i64 m.1)))
  have d1 := (blk_cell P2 1).trans (Eq.refl (some (Value.int .i64 m.2.1)))
  have d2 := (blk_cell P2 2).trans (Eq.refl (some (Value.string m.2.2)))
  obtain ⟨b1, hb1e⟩ : ∃ b, b = decide (badN n m.1) := ⟨_, rfl⟩
  obtain ⟨b2, hb2e⟩ : ∃ b, b = decide (badN n m.2.1) := ⟨_, rfl⟩
  have HN1 := Aside0.mk (HN.out m.1)
  have HN2 := Aside0.mk (HN.out m.2.1)
  rw [← hb1e] at HN1
  rw [← hb2e] at HN2
  obtain ⟨res, hres⟩ : ∃ res, res = putS n L m := ⟨_, rfl⟩
  rw [← hres]
  have HR := Aside0.mk hres
  have HB1e := Aside0.mk hb1e
  have HB2e := Aside0.mk hb2e
  unfold ptr mv at *
  clear h hb1 hb2 P1 P2 HN hres hb1e hb2e
  have hcase : b1 = true ∨ (b1 = false ∧ b2 = true) ∨ (b1 = false ∧ b2 = false ∧ decide ((m.2.2.size : Int) > 65535) = true) ∨ (b1 = false ∧ b2 = false ∧ decide ((m.2.2.size : Int) > 65535) = false) := by
    cases b1
    · cases b2
      · by_cases h3 : 65535 < m.2.2.size
        · exact .inr (.inr (.inl ⟨rfl, rfl, decide_eq_true (by omega)⟩))
        · exact .inr (.inr (.inr ⟨rfl, rfl, decide_eq_false (by omega)⟩))
      · exact .inr (.inl ⟨rfl, rfl⟩)
    · exact .inl rfl
  rcases hcase with rfl | ⟨rfl, rfl⟩ | ⟨rfl, rfl, h3⟩ | ⟨rfl, rfl, h3⟩
  · have HE : Aside0 (res = (L, 1)) := ⟨by rw [HR.out]; unfold putS; rw [if_pos (.inl (of_decide_eq_true HB1e.out.symm))]⟩
    go_enter Try.func10, Try.ntmps10
    go_upto_region 2 with fail
    rw [← hW2]
    clear hW2
    go_wp2_with fail
    refine HN1.out.mono ?_
    rintro e w1 ⟨rfl, rfl⟩
    go_wp2_with fail
    go_ret
    rw [HE.out]
    exact ⟨rfl, H2.out, Fr.of_below HB2.out _⟩
  · have HE : Aside0 (res = (L, 1)) := ⟨by rw [HR.out]; unfold putS; rw [if_pos (.inr (of_decide_eq_true HB2e.out.symm))]⟩
    go_enter Try.func10, Try.ntmps10
    go_upto_region 2 with fail
    rw [← hW2]
    clear hW2
    go_wp2_with fail
    refine HN1.out.mono ?_
    rintro e w1 ⟨rfl, rfl⟩
    go_wp2_with fail
    refine HN2.out.mono ?_
    rintro e w1 ⟨rfl, rfl⟩
    go_wp2_with fail
    go_ret
    rw [HE.out]
    exact ⟨rfl, H2.out, Fr.of_below HB2.out _⟩
  · have HE : Aside0 (res = (L, 2)) := ⟨by
      rw [HR.out]; unfold putS
      rw [if_neg (fun e => by rcases e with e | e; exact of_decide_eq_false HB1e.out.symm e; exact of_decide_eq_false HB2e.out.symm e), if_pos (by have := of_decide_eq_true h3; omega)]⟩
    go_enter Try.func10, Try.ntmps10
    go_upto_region 2 with fail
    rw [← hW2]
    clear hW2
    go_wp2_with fail
    refine HN1.out.mono ?_
    rintro e w1 ⟨rfl, rfl⟩
    go_wp2_with fail
    refine HN2.out.mono ?_
    rintro e w1 ⟨rfl, rfl⟩
    go_wp2_with fail
    go_ret
    rw [HE.out]
    exact ⟨rfl, H2.out, Fr.of_below HB2.out _⟩
  · have HE : Aside0 (res = addS L m) := ⟨by
      rw [HR.out]; unfold putS
      rw [if_neg (fun e => by rcases e with e | e; exact of_decide_eq_false HB1e.out.symm e; exact of_decide_eq_false HB2e.out.symm e), if_neg (by have := of_decide_eq_false h3; omega)]⟩
    have HCl := Aside0.mk (fun W => clone_calls m.2.2 W (by have := of_decide_eq_false h3; omega))
    go_enter Try.func10, Try.ntmps10
    go_upto_region 2 with fail
    rw [← hW2]
    clear hW2
    go_wp2_with fail
    refine HN1.out.mono ?_
    rintro e w1 ⟨rfl, rfl⟩
    go_wp2_with fail
    refine HN2.out.mono ?_
    rintro e w1 ⟨rfl, rfl⟩
    go_wp2_with fail
    refine (HCl.out _).mono ?_
    rintro e w3 ⟨rfl, hb⟩
    have Q1 := blk_below HP.out.1 hb
    have Q2 := blk_below HP.out.2 hb
    have q0 := (blk_cell Q1 0).trans (Eq.refl (some (Value.pointer (some ⟨bb, 0, none⟩))))
    have k0 := (blk_cell Q2 0).trans (Eq.refl (some (Value.int .i64 m.1)))
    have k1 := (blk_cell Q2 1).trans (Eq.refl (some (Value.int .i64 m.2.1)))
    have k2 := (blk_cell Q2 2).trans (Eq.refl (some (Value.string m.2.2)))
    have kf := blk_frozen Q2 2
    have B3 := Aside0.mk ((HB2.out.trans (hb.mono HB2.out.size)).setCell (p := ⟨w.heap.size + 1, 2, none⟩) (by show w.heap.size ≤ w.heap.size + 1; omega) (.string m.2.2))
    clear hb Q1 Q2
    go_upto_region 7 with fail
    have HA := Aside0.mk (add_calls (H0.out.below B3.out) m)
    unfold ptr mv at HA
    go_wp2_with fail
    refine HA.out.mono ?_
    rintro e w5 ⟨rfl, hI, hF⟩
    have I5 := Aside0.mk hI
    have F5 := Aside0.mk hF
    clear hI hF HA q0 k0 k1 k2 kf
    go_wp2_with fail
    go_ret
    rw [HE.out]
    exact ⟨rfl, I5.out, (Fr.of_below B3.out _).trans F5.out (fun k hk => .inl hk)⟩
theorem row_at {base : Nat} {v : Value} {l : List Msg} {W : World} {A : Option Addr} {k c : Nat} (h : W.ownsRow base 30 3 (.slice A k c) l.length (flat l)) {i : Nat} {x : Msg} (hx : l[i]? = some x) :
    ∃ g, A = some ⟨g, 0, none⟩ ∧ W.cell? ⟨g, i * 3, none⟩ = some (.int .i64 x.1) ∧ W.cell? ⟨g, i * 3 + 1, none⟩ = some (.int .i64 x.2.1) ∧ W.cell? ⟨g, i * 3 + 2, none⟩ = some (.string x.2.2) := by
  have hi : i < l.length := (List.getElem?_eq_some_iff.1 hx).1
  rcases h.2 with ⟨h1, h2⟩ | ⟨g, cap, cur, h1, hb, hg, h3, h4, h5, h6⟩
  · omega
  · simp only [Value.slice.injEq] at h1
    refine ⟨g, h1.1, ?_⟩
    have key : ∀ q, q < 3 → W.cell? ⟨g, i * 3 + q, none⟩ = (enc x)[q]? := fun q hq => by
      rw [blk_cell hg, ← flat_at l i q x hx hq, ← h6, List.getElem?_take_of_lt (by omega), Array.getElem?_toList]
    exact ⟨key 0 (by omega), key 1 (by omega), key 2 (by omega)⟩
set_option maxHeartbeats 3200000 in
set_option maxRecDepth 100000 in
theorem twice_calls (h : BIs B w bb mb n L) (i : Int) : Calls Try.prog 19 #[ptr bb, .int .i64 i] w (APost B bb mb n w (twiceS L i)) := by
  have hum := Try.underlying30
  have H0 := Aside0.mk h
  have HL := Aside0.mk (list_calls h)
  have hul : (uniq L).length ≤ 1024 := Nat.le_trans (uniq_le L) h.ok.len
  obtain ⟨res, hres⟩ : ∃ res, res = twiceS L i := ⟨_, rfl⟩
  rw [← hres]
  have HR := Aside0.mk hres
  obtain ⟨U, hU⟩ : ∃ U, U = uniq L := ⟨_, rfl⟩
  rw [← hU] at HL hul
  have HU := Aside0.mk hU
  clear h hres hU
  by_cases hh : 0 ≤ i ∧ i < (U.length : Int)
  · obtain ⟨j, rfl⟩ : ∃ j : Nat, i = j := ⟨i.toNat, by omega⟩
    have hj : j < U.length := by omega
    obtain ⟨x, hx⟩ : ∃ x, U[j]? = some x := ⟨_, List.getElem?_eq_getElem hj⟩
    have HE : Aside0 (res = addS L x) := ⟨by
      rw [HR.out]
      unfold twiceS atU
      rw [if_pos (show hasI L j from ⟨hh.1, by rw [← HU.out]; exact hh.2⟩), ← HU.out, Int.toNat_natCast, List.getD_eq_getElem?_getD, hx]
      rfl⟩
    have HX := Aside0.mk hx
    have b1 : decide ((j : Int) < 0) = false := decide_eq_false (by omega)
    have b2 : decide ((j : Int) ≥ (U.length : Int)) = false := decide_eq_false (by omega)
    have hj2 : (j : Int) < (U.length : Int) := hh.2
    clear hh hx
    unfold ptr at *
    go_enter Try.func19, Try.ntmps19
    go_wp2_with fail
    refine HL.out.mono ?_
    rintro e w1 ⟨v, rfl, hr, hb⟩
    obtain ⟨A, c, rfl⟩ := own_slice hr
    obtain ⟨g, rfl, x0, x1, x2⟩ := row_at (v := .slice A U.length c) hr HX.out
    have B1 := Aside0.mk hb
    have HA := Aside0.mk (add_calls (H0.out.below hb) x)
    unfold ptr mv at HA
    clear hr hb HL
    go_wp2_with fail
    refine HA.out.mono ?_
    rintro e w5 ⟨rfl, hI, hF⟩
    have I5 := Aside0.mk hI
    have F5 := Aside0.mk hF
    clear hI hF HA
    go_wp2_with fail
    go_ret
    rw [HE.out]
    exact ⟨rfl, I5.out, (Fr.of_below B1.out _).trans F5.out (fun k hk => .inl hk)⟩
  · have HE : Aside0 (res = (L, 6)) := ⟨by
      rw [HR.out]
      unfold twiceS
      rw [if_neg (show ¬ hasI L i from fun e => hh ⟨e.1, by rw [HU.out]; exact e.2⟩)]⟩
    have hcase : decide (i < 0) = true ∨ (decide (i < 0) = false ∧ decide (i ≥ (U.length : Int)) = true) := by
      by_cases h1 : i < 0
      · exact .inl (decide_eq_true h1)
      · exact .inr ⟨decide_eq_false h1, decide_eq_true (by omega)⟩
    clear hh
    unfold ptr at *
    rcases hcase with b1 | ⟨b1, b2⟩
    all_goals
      go_enter Try.func19, Try.ntmps19
      go_wp2_with fail
      refine HL.out.mono ?_
      rintro e w1 ⟨v, rfl, hr, hb⟩
      obtain ⟨A, c, rfl⟩ := own_slice hr
      have B1 := Aside0.mk hb
      clear hr hb
      go_wp2_with fail
      go_ret
      rw [HE.out]
      exact ⟨rfl, H0.out.below B1.out, Fr.of_below B1.out _⟩
theorem cnt_erase (L : List Msg) (x : Msg) (hx : x ∈ L) : cnt (L.erase x) = if L.count x = 1 then fdel (cnt L) x else fput (cnt L) x (.int .i64 ((L.count x : Int) - 1)) := by
  have hpos : 0 < L.count x := List.count_pos_iff.2 hx
  funext y
  by_cases e : x = y
  · subst e
    have h1 : (L.erase x).count x = L.count x - 1 := List.count_erase_self
    unfold cnt
    rw [h1]
    by_cases h : L.count x = 1
    · rw [if_pos (by omega), if_pos h]
      unfold fdel
      rw [if_pos rfl]
    · rw [if_neg (by omega), if_neg h]
      unfold fput
      rw [if_pos rfl]
      congr 2
      omega
  · have h1 : (L.erase x).count y = L.count y := List.count_erase_of_ne (fun h => e h.symm)
    unfold cnt
    rw [h1]
    by_cases h : L.count x = 1
    · rw [if_pos h]
      unfold fdel
      rw [if_neg e]
    · rw [if_neg h]
      unfold fput
      rw [if_neg e]
def DPost (B bb mb : Nat) (n : Int) (w : World) (r : List Msg × Msg × Int) (e : Ending) (w' : World) : Prop := e = .returned (.tuple #[mv r.2.1, .int .i64 r.2.2]) ∧ BIs B w' bb mb n r.1 ∧ Fr w w' (fp bb mb)
set_option maxHeartbeats 1600000 in
set_option maxRecDepth 100000 in
theorem deliver_no (h : BIs B w bb mb n L) (i : Int) (hh : ¬ hasI L i) : Calls Try.prog 15 #[ptr bb, .int .i64 i] w (DPost B bb mb n w (L, z0, 6)) := by
  have hum := Try.underlying30
  have hb0 := below_alloc (Below.refl w.heap.size w) (.cells #[.int .i64 0, .int .i64 0, .string ⟨#[]⟩] 30)
  have H0 := Aside0.mk h
  have HL := Aside0.mk (list_calls (h.below hb0))
  have hul : (uniq L).length ≤ 1024 := Nat.le_trans (uniq_le L) h.ok.len
  have hcase : decide (i < 0) = true ∨ (decide (i < 0) = false ∧ decide (i ≥ ((uniq L).length : Int)) = true) := by
    unfold hasI at hh
    by_cases h1 : i < 0
    · exact .inl (decide_eq_true h1)
    · exact .inr ⟨decide_eq_false h1, decide_eq_true (by omega)⟩
  obtain ⟨U, hU⟩ : ∃ U, U = uniq L := ⟨_, rfl⟩
  rw [← hU] at HL hul hcase
  have P0 := Aside0.mk (blk_new w (.cells #[.int .i64 0, .int .i64 0, .string ⟨#[]⟩] 30))
  have HB0 := Aside0.mk hb0
  clear h hh hU hb0
  unfold ptr at *
  rcases hcase with b1 | ⟨b1, b2⟩
  all_goals
    go_enter Try.func15, Try.ntmps15
    go_wp2_with fail
    refine HL.out.mono ?_
    rintro e w1 ⟨v, rfl, hr, hb⟩
    obtain ⟨A, c, rfl⟩ := own_slice hr
    have B1 := Aside0.mk (HB0.out.trans (hb.mono HB0.out.size))
    have P1 := Aside0.mk (blk_below P0.out hb)
    have f1 := blk_frozen P1.out
    have d0 := (blk_cell P1.out 0).trans rfl
    have d1 := (blk_cell P1.out 1).trans rfl
    have d2 := (blk_cell P1.out 2).trans rfl
    clear hr hb
    go_wp2_with fail
    have B2 := ((B1.out.setCell (Nat.le_refl w.heap.size) (p := ⟨w.heap.size, 0, none⟩) (.int .i64 0)).setCell (Nat.le_refl _) (p := ⟨w.heap.size, 1, none⟩) (.int .i64 0)).setCell (Nat.le_refl _) (p := ⟨w.heap.size, 2, none⟩) (.string ⟨#[]⟩)
    refine bodyPost_ret (v := .tuple #[mv z0, .int .i64 6]) (by simp [results, Try.results15, go_sem, mv, z0, d0, d1, d2]) rfl ⟨rfl, H0.out.below B2, Fr.of_below B2 _⟩
end
end Go.Proofs.Ytmledapichlhdaa.Bag
