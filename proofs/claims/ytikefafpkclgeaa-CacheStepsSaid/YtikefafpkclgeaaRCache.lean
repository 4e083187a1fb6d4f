/- The document's cache: how it lies in memory; New, right, find, without, use. -/
import Derived.Test.YtikefafpkclgeaaRCacheS
set_option linter.unusedVariables false
set_option linter.unusedSimpArgs false
namespace Go.Proofs.Ytikefafpkclgeaa.Cache
open Go.RowKit Go.Proofs.YtikefafpkclgeaaW.PrintWords Go.Proofs.YtikefafpkclgeaaW.PrintLast Go.Proofs.YtikefafpkclgeaaW.PrintMore Go.Proofs.Ytikefafpkclgeaa.Maps Go.Proofs.Ytikefafpkclgeaa.CacheS
structure RIs (B : Nat) (w : World) (rb : Nat) (v : Value) (n : Int) (L : List F) : Prop where
  blk : w.heap[rb]? = some (.cells #[.int .i64 n, v] 77 (0, 0))
  row : w.ownsRow B 83 4 v L.length (flatF L)
  bd : B ≤ rb
/-- What a step of it may turn. -/
def rf (rb : Nat) (v : Value) (k : Nat) : Prop := k = rb ∨ v.ownBlock = some k
/-- What a step of it leaves. -/
def RPost (B rb : Nat) (v : Value) (n : Int) (w : World) (L' : List F) (w' : World) : Prop := ∃ v', RIs B w' rb v' n L' ∧ Fr w w' (rf rb v) ∧ ∀ k, v'.ownBlock = some k → v.ownBlock = some k ∨ w.heap.size ≤ k
section
variable {B rb : Nat} {w w1 w' : World} {v v1 : Value} {n : Int} {L L1 L' : List F}
theorem RIs.move (h : RIs B w rb v n L) (hb : ∀ k, rf rb v k → w'.heap[k]? = w.heap[k]?) : RIs B w' rb v n L := ⟨(hb rb (.inl rfl)).trans h.blk, own_move h.row fun k hk => hb k (.inr hk), h.bd⟩
theorem RIs.below (h : RIs B w rb v n L) (hb : Below w.heap.size w w') : RIs B w' rb v n L := ⟨blk_below h.blk hb, own_below h.row hb, h.bd⟩
theorem RIs.c0 (h : RIs B w rb v n L) : w.cell? ⟨rb, 0, none⟩ = some (.int .i64 n) := (blk_cell h.blk 0).trans rfl
theorem RIs.c1 (h : RIs B w rb v n L) : w.cell? ⟨rb, 1, none⟩ = some v := (blk_cell h.blk 1).trans rfl
theorem RIs.slice (h : RIs B w rb v n L) : ∃ A c, v = .slice A L.length c := own_slice h.row
theorem RIs.stay (h : RIs B w rb v n L) (hb : Below w.heap.size w w') : RPost B rb v n w L w' := ⟨v, h.below hb, Fr.of_below hb _, fun k hk => .inl hk⟩
theorem RIs.ge (h : RIs B w rb v n L) (k : Nat) (hk : rf rb v k) : B ≤ k := by
  rcases hk with rfl | hk
  · exact h.bd
  · exact own_base h.row k hk
theorem RIs.lt (h : RIs B w rb v n L) (k : Nat) (hk : rf rb v k) : k < w.heap.size := by
  rcases hk with rfl | hk
  · exact blk_lt h.blk
  · exact own_lt h.row k hk
theorem RIs.apart (h : RIs B w rb v n L) : v.ownBlock ≠ some rb := fun q => own_ne h.row h.blk (by decide) q.symm
theorem RPost.trans (h : RPost B rb v n w L1 w1) (k : ∀ v1, RIs B w1 rb v1 n L1 → RPost B rb v1 n w1 L' w') : RPost B rb v n w L' w' := by
  obtain ⟨v1, h1, h2, h3⟩ := h
  obtain ⟨v2, k1, k2, k3⟩ := k v1 h1
  refine ⟨v2, k1, h2.trans k2 fun i hi => ?_, fun i hi => ?_⟩
  · rcases hi with rfl | hi
    · exact .inl (.inl rfl)
    · rcases h3 i hi with q | q
      · exact .inl (.inr q)
      · exact .inr q
  · rcases k3 i hi with q | q
    · exact h3 i q
    · exact .inr (Nat.le_trans h2.size q)
/-- A new row is laid in. -/
theorem RIs.setRow (h : RIs B w rb v n L) {base : Nat} (hbase : w.heap.size ≤ base) (hb : Below w.heap.size w w1) {u : Value} {M : List F} (hr : w1.ownsRow base 83 4 u M.length (flatF M)) : RPost B rb v n w M (w1.setCell ⟨rb, 1, none⟩ u) := by
  have h1 := h.below hb
  have hlt := blk_lt h.blk
  refine ⟨u, ⟨blk_put h1.blk 1 u (by simp), own_mono (own_move hr fun k hk => Below.heap_setCell w1 ⟨rb, 1, none⟩ u k (fun e => by have := own_base hr k hk; have e : k = rb := e; omega)) (by have := h.bd; omega), h.bd⟩, (Fr.of_below hb _).trans (fr_set1 w1 rb 1 u) (fun k hk => .inl (.inl hk)), fun k hk => .inr (Nat.le_trans hbase (own_base hr k hk))⟩
/-- A frame's field is turned in its place. -/
theorem RIs.setF (h : RIs B w rb v n L) {i j : Nat} {x x' : F} {u : Value} (hx : L[i]? = some x) (hj : j < 4) (he : (encF x).set j u = encF x') :
    ∃ g c, v = .slice (some ⟨g, 0, none⟩) L.length c ∧ RIs B (w.setCell ⟨g, i * 4 + j, none⟩ u) rb v n (L.set i x') ∧ Fr w (w.setCell ⟨g, i * 4 + j, none⟩ u) (rf rb v) ∧ w.frozen? ⟨g, i * 4 + j, none⟩ = false := by
  have hap := h.apart
  obtain ⟨A, c, rfl⟩ := h.slice
  obtain ⟨g, rfl, _⟩ := frow_at h.row hx
  obtain ⟨cs, hcs⟩ := own_frozen h.row
  have hne : rb ≠ g := fun e => hap (by rw [e]; rfl)
  have hs := own_set4 h.row hx hj he
  rw [List.length_set] at hs
  refine ⟨g, c, rfl, ⟨(Below.heap_setCell w ⟨g, i * 4 + j, none⟩ u rb hne).trans h.blk, by rw [List.length_set]; exact hs, h.bd⟩, ⟨rfl, rfl, rfl, by simp [World.setCell], fun k _ hk => Below.heap_setCell w ⟨g, i * 4 + j, none⟩ u k (fun e => hk (.inr (by have e : k = g := e; rw [e]; rfl)))⟩, blk_frozen hcs _⟩
theorem room5 {n k : Nat} (h1 : n ≤ k) (h3 : k ≤ 1024) : (n + 1) * 40 ≤ 140737488355328 := by omega
theorem room6 {n : Nat} (h1 : n ≤ 1024) : (n + 1) * 24 ≤ 140737488355328 := by omega
theorem room7 {n : Nat} (h1 : n ≤ 64) : (n + 1) * 40 ≤ 140737488355328 := by omega
set_option maxHeartbeats 800000 in
set_option maxRecDepth 100000 in
theorem rnew_no (n : Int) (w : World) (h : n < 1 ∨ 64 < n) : Calls Try.prog 16 #[.int .i64 n] w fun e w' => e = .returned (.tuple #[.pointer none, .int .i64 1]) ∧ Below w.heap.size w w' := by
  have hb : decide (n < 1) = true ∨ (decide (n < 1) = false ∧ decide (n > 64) = true) := by simp; omega
  clear h
  rcases hb with b1 | ⟨b1, b2⟩
  all_goals
    go_enter Try.func16, Try.ntmps16
    go_wp2_with fail
    go_ret2
    exact ⟨rfl, Below.refl _ _⟩
set_option maxHeartbeats 800000 in
set_option maxRecDepth 100000 in
theorem rnew_yes (n : Int) (w : World) (B : Nat) (hB : B ≤ w.heap.size) (h1 : 1 ≤ n) (h2 : n ≤ 64) : Calls Try.prog 16 #[.int .i64 n] w fun e w' => ∃ rb, e = .returned (.tuple #[ptr rb, .int .i64 0]) ∧ RIs B w' rb (.slice none 0 0) n [] ∧ Below w.heap.size w w' ∧ w.heap.size ≤ rb := by
  have hu := Try.underlying77
  have b1 : decide (n < 1) = false := decide_eq_false (by omega)
  have b2 : decide (n > 64) = false := decide_eq_false (by omega)
  unfold ptr
  clear h1 h2
  go_enter Try.func16, Try.ntmps16
  go_wp2_with fail
  go_ret2
  exact ⟨w.heap.size, rfl, ⟨blk_new w _, own_nil _ _ _ _, hB⟩, below_alloc (Below.refl _ _) _, Nat.le_refl _⟩
set_option maxHeartbeats 800000 in
set_option maxRecDepth 100000 in
theorem rright_calls (k : Int) (d : ByteArray) (w : World) : Calls Try.prog 48 #[.int .i64 k, .string d] w fun e w' => e = .returned (.bool (rightS k d)) ∧ w' = w := by
  have hb : (decide (k ≥ 0) = false ∧ rightS k d = false) ∨ (decide (k ≥ 0) = true ∧ decide (k < 1024) = false ∧ rightS k d = false) ∨ (decide (k ≥ 0) = true ∧ decide (k < 1024) = true ∧ ((d.size : Int) == 128) = rightS k d) := by
    unfold rightS
    by_cases h1 : 0 ≤ k
    · by_cases h2 : k < 1024
      · refine .inr (.inr ⟨decide_eq_true h1, decide_eq_true h2, ?_⟩)
        rw [decide_eq_true h1, decide_eq_true h2]
        by_cases h3 : d.size = 128
        · simp [h3]
        · simp [h3]; omega
      · exact .inr (.inl ⟨decide_eq_true h1, decide_eq_false h2, by rw [decide_eq_true h1, decide_eq_false h2]; rfl⟩)
    · exact .inl ⟨decide_eq_false h1, by rw [decide_eq_false h1]; rfl⟩
  rcases hb with ⟨b1, b2⟩ | ⟨b1, b2, b3⟩ | ⟨b1, b2, b3⟩
  · rw [b2]; clear b2
    go_enter Try.func48, Try.ntmps48
    go_wp2_with fail
    go_ret
    exact ⟨rfl, rfl⟩
  · rw [b3]; clear b3
    go_enter Try.func48, Try.ntmps48
    go_wp2_with fail
    go_ret
    exact ⟨rfl, rfl⟩
  · generalize rightS k d = r at b3 ⊢
    go_enter Try.func48, Try.ntmps48
    go_wp2_with fail
    go_ret
    exact ⟨rfl, rfl⟩
set_option maxHeartbeats 3200000 in
set_option maxRecDepth 100000 in
theorem rfind_yes (h : RIs B w rb v n L) (hn : (L.map F.b).Nodup) (hl : L.length ≤ 64) {i : Nat} {f : F} (hi : L[i]? = some f) : Calls Try.prog 42 #[ptr rb, .int .i64 f.b] w fun e w' => e = .returned (.int .i64 (i : Int)) ∧ Below w.heap.size w w' := by
  have hup := Try.underlying43
  have hu := Try.underlying77
  have huf := Try.underlying83
  obtain ⟨A, c, rfl⟩ := h.slice
  have H0 := Aside0.mk h
  have c1 := h.c1
  have HL : Aside0 (L.length ≤ 1024) := ⟨by omega⟩
  have HI := Aside0.mk hi
  have HIL := Aside0.mk (List.getElem?_eq_some_iff.1 hi).1
  have HO : Aside0 (∀ (j : Nat) x, L[j]? = some x → j < i → x.b ≠ f.b) := ⟨fun j x hx hj => other_b hn hi hx hj⟩
  clear h hn hl hi
  unfold ptr
  go_enter Try.func42, Try.ntmps42
  go_wp2_with fail
  go_loopw [12] (fun z wi => ∃ j : Nat, j ≤ i ∧ z = .int .i64 j ∧ Aside0 (Below w.heap.size w wi)) (fun z _ => L.length - (intOf z).toNat)
  case atStart => exact ⟨0, by omega, rfl, ⟨Below.refl _ _⟩⟩
  case round =>
    obtain ⟨j, hj, rfl, I⟩ := hrel
    have hlj : j < L.length := Nat.lt_of_le_of_lt hj HIL.out
    obtain ⟨x, hx⟩ : ∃ x, L[j]? = some x := ⟨_, List.getElem?_eq_getElem hlj⟩
    have hb2 : decide ((j : Int) < (L.length : Int)) = true := decide_eq_true (by omega)
    obtain ⟨g, rfl, x0, x1, x2, x3⟩ := frow_at (H0.out.below I.out).row hx
    have PX := Aside0.mk (blk_new wr (.cells #[.int .i64 x.b, .int .i64 x.p, .string x.d, .bool x.y] 83))
    have hbx := below_alloc (Below.refl wr.heap.size wr) (.cells #[.int .i64 x.b, .int .i64 x.p, .string x.d, .bool x.y] 83)
    have I2 := Aside0.mk (I.out.trans (hbx.mono I.out.size))
    have N1 := Aside0.mk (nxt j L.length hlj HL.out)
    have M1 := Aside0.mk (meas j L.length hlj HL.out)
    have HX := Aside0.mk hx
    clear hx hbx
    go_upto_region 4 with fail
    generalize wr.alloc (.cells #[.int .i64 x.b, .int .i64 x.p, .string x.d, .bool x.y] 83) = W9 at PX I2 ⊢
    generalize wr.heap.size = b9 at PX ⊢
    clear x0 x1 x2 x3 I
    have p0 := (blk_cell PX.out 0).trans (Eq.refl (some (Value.int .i64 x.b)))
    rcases Nat.lt_or_eq_of_le hj with hji | hji
    · have hz : (x.b == f.b) = false := by simpa using HO.out j x HX.out hji
      have HJ := Aside0.mk hji
      clear hji
      go_wp2_with fail
      go_roundw
      case rel => exact ⟨j + 1, HJ.out, N1.out, I2⟩
      case measure => exact M1.out
    · obtain rfl : x = f := by
        have h1 := HI.out
        rw [← hji, HX.out] at h1
        exact Option.some.inj h1
      obtain rfl := hji
      go_wp2_with fail
      go_ret
      exact ⟨rfl, I2.out⟩
set_option maxHeartbeats 3200000 in
set_option maxRecDepth 100000 in
theorem rfind_no (h : RIs B w rb v n L) (hl : L.length ≤ 64) {k : Int} (hi : fnd F.b L k = none) : Calls Try.prog 42 #[ptr rb, .int .i64 k] w fun e w' => e = .returned (.int .i64 (-1)) ∧ Below w.heap.size w w' := by
  have hup := Try.underlying43
  have hu := Try.underlying77
  have huf := Try.underlying83
  obtain ⟨A, c, rfl⟩ := h.slice
  have H0 := Aside0.mk h
  have c1 := h.c1
  have HL : Aside0 (L.length ≤ 1024) := ⟨by omega⟩
  have HO : Aside0 (∀ x ∈ L, x.b ≠ k) := ⟨fun x hx => fnd_none hi x hx⟩
  clear h hl hi
  unfold ptr
  go_enter Try.func42, Try.ntmps42
  go_wp2_with fail
  go_loopw [12] (fun z wi => ∃ j : Nat, j ≤ L.length ∧ z = .int .i64 j ∧ Aside0 (Below w.heap.size w wi)) (fun z _ => L.length - (intOf z).toNat)
  case atStart => exact ⟨0, by omega, rfl, ⟨Below.refl _ _⟩⟩
  case round =>
    obtain ⟨j, hj, rfl, I⟩ := hrel
    by_cases hlj : j < L.length
    · obtain ⟨x, hx⟩ : ∃ x, L[j]? = some x := ⟨_, List.getElem?_eq_getElem hlj⟩
      have hb2 : decide ((j : Int) < (L.length : Int)) = true := decide_eq_true (by omega)
      obtain ⟨g, rfl, x0, x1, x2, x3⟩ := frow_at (H0.out.below I.out).row hx
      have PX := Aside0.mk (blk_new wr (.cells #[.int .i64 x.b, .int .i64 x.p, .string x.d, .bool x.y] 83))
      have hbx := below_alloc (Below.refl wr.heap.size wr) (.cells #[.int .i64 x.b, .int .i64 x.p, .string x.d, .bool x.y] 83)
      have I2 := Aside0.mk (I.out.trans (hbx.mono I.out.size))
      have N1 := Aside0.mk (nxt j L.length hlj HL.out)
      have M1 := Aside0.mk (meas j L.length hlj HL.out)
      have hz : (x.b == k) = false := by simpa using HO.out x (List.mem_of_getElem? hx)
      clear hx hbx
      go_upto_region 4 with fail
      generalize wr.alloc (.cells #[.int .i64 x.b, .int .i64 x.p, .string x.d, .bool x.y] 83) = W9 at PX I2 ⊢
      generalize wr.heap.size = b9 at PX ⊢
      clear x0 x1 x2 x3 I
      have p0 := (blk_cell PX.out 0).trans (Eq.refl (some (Value.int .i64 x.b)))
      go_wp2_with fail
      go_roundw
      case rel => exact ⟨j + 1, hlj, N1.out, I2⟩
      case measure => exact M1.out
    · obtain rfl : j = L.length := by omega
      have hb2 : decide ((L.length : Int) < (L.length : Int)) = false := decide_eq_false (by omega)
      go_wp2_with fail
      go_ret
      exact ⟨rfl, I.out⟩
set_option maxHeartbeats 6400000 in
set_option maxRecDepth 100000 in
theorem rwithout_calls {base : Nat} {A : Option Addr} {c : Nat} (h : w.ownsRow base 83 4 (.slice A L.length c) L.length (flatF L)) (hl : L.length ≤ 64) (i : Nat) : Calls Try.prog 49 #[.slice A L.length c, .int .i64 (i : Int)] w fun e w' => ∃ u, e = .returned u ∧ w'.ownsRow w.heap.size 83 4 u (L.eraseIdx i).length (flatF (L.eraseIdx i)) ∧ Below w.heap.size w w' := by
  have huf := Try.underlying83
  have H0 := Aside0.mk h
  have HL : Aside0 (L.length ≤ 1024) := ⟨by omega⟩
  clear h hl
  go_enter Try.func49, Try.ntmps49
  go_wp2_with fail
  go_loopw [5, 10] (fun v5 z wi => ∃ j : Nat, j ≤ L.length ∧ z = .int .i64 j ∧ Aside0 (wi.ownsRow w.heap.size 83 4 v5 (wo L i j).length (flatF (wo L i j)) ∧ Below w.heap.size w wi)) (fun _ z _ => L.length - (intOf z).toNat)
  case atStart => exact ⟨0, by omega, rfl, ⟨by rw [wo_zero]; exact own_nil _ _ _ _, Below.refl _ _⟩⟩
  case round =>
    obtain ⟨j, hj, rfl, I⟩ := hrel
    obtain ⟨A5, c5, rfl⟩ := own_slice I.out.1
    by_cases hlj : j < L.length
    · obtain ⟨x, hx⟩ : ∃ x, L[j]? = some x := ⟨_, List.getElem?_eq_getElem hlj⟩
      have hb2 : decide ((j : Int) < (L.length : Int)) = true := decide_eq_true (by omega)
      obtain ⟨g, rfl, x0, x1, x2, x3⟩ := frow_at (own_below H0.out I.out.2) hx
      have PX := Aside0.mk (blk_new wr (.cells #[.int .i64 x.b, .int .i64 x.p, .string x.d, .bool x.y] 83))
      have hbx := below_alloc (Below.refl wr.heap.size wr) (.cells #[.int .i64 x.b, .int .i64 x.p, .string x.d, .bool x.y] 83)
      have I2 := Aside0.mk (And.intro (own_below I.out.1 hbx) (I.out.2.trans (hbx.mono I.out.2.size)))
      have N1 := Aside0.mk (nxt j L.length hlj HL.out)
      have M1 := Aside0.mk (meas j L.length hlj HL.out)
      have hml := room5 (Nat.le_trans (wo_len L i j) hj) HL.out
      have HX := Aside0.mk hx
      clear hx hbx
      go_upto_region 5 with fail
      generalize wr.alloc (.cells #[.int .i64 x.b, .int .i64 x.p, .string x.d, .bool x.y] 83) = W9 at PX I2 ⊢
      generalize wr.heap.size = b9 at PX ⊢
      clear x0 x1 x2 x3 I
      have p0 := (blk_cell PX.out 0).trans (Eq.refl (some (Value.int .i64 x.b)))
      have p1 := (blk_cell PX.out 1).trans (Eq.refl (some (Value.int .i64 x.p)))
      have p2 := (blk_cell PX.out 2).trans (Eq.refl (some (Value.string x.d)))
      have p3 := (blk_cell PX.out 3).trans (Eq.refl (some (Value.bool x.y)))
      by_cases hji : j = i
      · subst hji
        have hE := Aside0.mk (wo_same HX.out)
        go_wp2_with fail
        go_roundw
        case rel => exact ⟨j + 1, hlj, N1.out, ⟨by rw [hE.out]; exact I2.out.1, I2.out.2⟩⟩
        case measure => exact M1.out
      · have hE := Aside0.mk (wo_next HX.out hji)
        have hz : ((j : Int) == (i : Int)) = false := beq_eq_false_iff_ne.2 (by omega)
        clear hji
        go_wp2_with (at_builtin; refine print_append_cells w.heap.size rfl (.tmp 18) (.tmp 20) 75 83 (.agg #[.int .i64 0, .int .i64 0, .string ⟨#[]⟩, .bool false]) 4 40 rfl Try.underlying75 infoF rfl (by decide) (by decide) _ _ _ (encF x) rfl rfl rfl (one_frame x) I2.out.1 I2.out.2 I2.out.2.size hml ?_; intro v6 w6 hr6 hb6 hg6 ho6)
        have I6 := Aside0.mk (And.intro hr6 hb6)
        clear hr6 hb6 hg6 ho6 p0 p1 p2 p3
        go_wp2_with fail
        go_roundw
        case rel => exact ⟨j + 1, hlj, N1.out, ⟨by rw [hE.out, flatF_snoc, List.length_append]; exact I6.out.1, I6.out.2⟩⟩
        case measure => exact M1.out
    · obtain rfl : j = L.length := by omega
      have hb2 : decide ((L.length : Int) < (L.length : Int)) = false := decide_eq_false (by omega)
      have hr := I.out.1
      rw [wo_all] at hr
      have R := Aside0.mk (And.intro hr I.out.2)
      clear hr I
      rw [wo_all]
      go_wp2_with fail
      go_ret
      exact ⟨_, rfl, R.out.1, R.out.2⟩
set_option maxHeartbeats 6400000 in
set_option maxRecDepth 100000 in
theorem ruse_calls (h : RIs B w rb v n L) (hl : L.length ≤ 64) {i : Nat} {f : F} (hi : L[i]? = some f) : Calls Try.prog 50 #[ptr rb, .int .i64 (i : Int)] w fun e w' => e = .returned (.tuple #[]) ∧ RPost B rb v n w (L.eraseIdx i ++ [f]) w' := by
  have hup := Try.underlying43
  have hu := Try.underlying77
  have huf := Try.underlying83
  obtain ⟨A, c, rfl⟩ := h.slice
  obtain ⟨g, rfl, x0, x1, x2, x3⟩ := frow_at h.row hi
  have hil : (i : Int) < (L.length : Int) := by have := (List.getElem?_eq_some_iff.1 hi).1; omega
  have c1 := h.c1
  have PX := Aside0.mk (blk_new w (.cells #[.int .i64 f.b, .int .i64 f.p, .string f.d, .bool f.y] 83))
  have B1 := Aside0.mk (below_alloc (Below.refl w.heap.size w) (.cells #[.int .i64 f.b, .int .i64 f.p, .string f.d, .bool f.y] 83))
  have H0 := Aside0.mk h
  have HL := Aside0.mk hl
  have hml : ((L.eraseIdx i).length + 1) * 40 ≤ 140737488355328 := room7 (Nat.le_trans (List.length_eraseIdx_le _ _) hl)
  clear h hl hi
  unfold ptr
  go_enter Try.func50, Try.ntmps50
  go_upto_region 1 with fail
  generalize w.alloc (.cells #[.int .i64 f.b, .int .i64 f.p, .string f.d, .bool f.y] 83) = W1 at PX B1 ⊢
  obtain ⟨b4, hb4⟩ : ∃ b4, b4 = w.heap.size := ⟨_, rfl⟩
  rw [← hb4] at PX ⊢
  clear c1 x0 x1 x2 x3 hil hb4
  have c1 := (H0.out.below B1.out).c1
  go_wp2_with fail
  refine (rwithout_calls (H0.out.below B1.out).row HL.out i).mono ?_
  rintro e w2 ⟨u, rfl, hr, hb⟩
  obtain ⟨A2, c2, rfl⟩ := own_slice hr
  have P2 := blk_below PX.out hb
  have p0 := (blk_cell P2 0).trans (Eq.refl (some (Value.int .i64 f.b)))
  have p1 := (blk_cell P2 1).trans (Eq.refl (some (Value.int .i64 f.p)))
  have p2 := (blk_cell P2 2).trans (Eq.refl (some (Value.string f.d)))
  have p3 := (blk_cell P2 3).trans (Eq.refl (some (Value.bool f.y)))
  have R2 := Aside0.mk (And.intro hr hb)
  clear hr hb P2 c1
  go_wp2_with (
    at_builtin
    refine print_append_cells W1.heap.size rfl (.tmp 19) (.tmp 21) 75 83 (.agg #[.int .i64 0, .int .i64 0, .string ⟨#[]⟩, .bool false]) 4 40 rfl Try.underlying75 infoF rfl (by decide) (by decide) _ _ _ (encF f) rfl rfl rfl (one_frame f) R2.out.1 R2.out.2 R2.out.2.size hml ?_
    intro v6 w6 hr6 hb6 hg6 ho6
    have B6 : Aside0 (Below w.heap.size w w6) := ⟨B1.out.trans (hb6.mono B1.out.size)⟩
    have HP : Aside0 (RPost B rb (.slice (some ⟨g, 0, none⟩) L.length c) n w (L.eraseIdx i ++ [f]) (w6.setCell ⟨rb, 1, none⟩ v6)) := ⟨H0.out.setRow B1.out.size B6.out (by rw [flatF_snoc, List.length_append]; exact hr6)⟩
    have h6 := H0.out.below B6.out
    have c1 := h6.c1
    have cf := blk_frozen h6.blk
    obtain ⟨A6, c6, rfl⟩ := own_slice hr6
    clear hr6 hb6 hg6 ho6 p0 p1 p2 p3 h6)
  go_end0
  exact ⟨rfl, HP.out⟩
end
end Go.Proofs.Ytikefafpkclgeaa.Cache
