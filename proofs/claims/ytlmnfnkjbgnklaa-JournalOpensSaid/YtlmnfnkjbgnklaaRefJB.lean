/- The document's journal in memory: New, Next, Free, Header. The document's journal in memory: Seal, Done. The document's journal in memory: Append. -/
import Derived.Test.YtlmnfnkjbgnklaaRefE
import Derived.Test.YtlmnfnkjbgnklaaJrnlA
section
/- The document's journal in memory: New, Next, Free, Header. -/
set_option linter.unusedVariables false
set_option linter.unusedSimpArgs false
namespace Go.Proofs.Ytlmnfnkjbgnklaa.JS
open Go.RowKit Go.Proofs.YtlmnfnkjbgnklaaW.PrintWords Go.Proofs.Ytlmnfnkjbgnklaa.Spec Go.Proofs.Ytlmnfnkjbgnklaa.TxnS
/-- The document's journal. -/
structure RJ where
  places : Int
  tail : Int
  first : Int
  sealed : Int
  l : List (List Ch)
/-- It as a journal. -/
def RJ.jr (R : RJ) : Jr := ⟨R.places, R.tail, R.first, R.sealed, R.l.map fun x => x.length + 1⟩
theorem RJ.len (R : RJ) : R.jr.sizes.length = R.l.length := by simp [RJ.jr]
end Go.Proofs.Ytlmnfnkjbgnklaa.JS
namespace Go.Proofs.Ytlmnfnkjbgnklaa.Jrnl
open Go.RowKit Go.Proofs.YtlmnfnkjbgnklaaW.PrintWords Go.Proofs.YtlmnfnkjbgnklaaW.PrintLast Go.Proofs.YtlmnfnkjbgnklaaW.PrintMore Go.Proofs.Ytlmnfnkjbgnklaa.TxnS Go.Proofs.Ytlmnfnkjbgnklaa.Txn Go.Proofs.Ytlmnfnkjbgnklaa.JS Go.Proofs.Ytlmnfnkjbgnklaa.Run Go.Proofs.Ytlmnfnkjbgnklaa.Spec
/-- The block that a row lies in, if it has any. -/
def rd : Value → Nat → Prop
  | .slice (some ad) n _, k => 0 < n ∧ ad.block = k
  | _, _ => False
theorem chs_step {w w' : World} {A : Option Addr} {l : List Ch} {c : Nat} (h : Chs w A l) (hb : ∀ k, rd (.slice A l.length c) k → w'.heap[k]? = w.heap[k]?) : Chs w' A l := by
  intro i hi
  obtain ⟨ad, rfl, h1, h2⟩ := h i hi
  have e := hb ad.block ⟨by omega, rfl⟩
  have e1 : (ad.add (i * 2)).block = ad.block := by unfold Addr.add; split <;> rfl
  refine ⟨ad, rfl, ?_, ?_⟩
  · exact (World.cell?_of_block (by rw [e1]; exact e)).trans h1
  · exact (World.cell?_of_block (by show w'.heap[(ad.add (i * 2)).block]? = _; rw [e1]; exact e)).trans h2
/-- The values us are rows of changes. -/
def UsOk (w : World) (us : List Value) (L : List (List Ch)) : Prop := us.length = L.length ∧ ∀ i (h : i < L.length), ∃ A c, us[i]? = some (.slice A L[i].length c) ∧ Chs w A L[i]
theorem UsOk.step {w w' : World} {us : List Value} {L : List (List Ch)} (h : UsOk w us L) (hb : ∀ u ∈ us, ∀ k, rd u k → w'.heap[k]? = w.heap[k]?) : UsOk w' us L := by
  refine ⟨h.1, fun i hi => ?_⟩
  obtain ⟨A, c, e, hc⟩ := h.2 i hi
  exact ⟨A, c, e, chs_step hc (hb _ (List.mem_of_getElem? e))⟩
theorem UsOk.push {w : World} {us : List Value} {L : List (List Ch)} (h : UsOk w us L) {A : Option Addr} {l : List Ch} {c : Nat} (hc : Chs w A l) : UsOk w (us ++ [.slice A l.length c]) (L ++ [l]) := by
  refine ⟨by simp [h.1], fun i hi => ?_⟩
  rw [List.length_append, List.length_singleton] at hi
  by_cases hl : i < L.length
  · obtain ⟨A', c', e, hc'⟩ := h.2 i hl
    refine ⟨A', c', ?_, ?_⟩
    · rw [List.getElem?_append_left (by rw [h.1]; exact hl), e, List.getElem_append_left hl]
    · rw [List.getElem_append_left hl]; exact hc'
  · obtain rfl : i = L.length := by omega
    refine ⟨A, c, ?_, ?_⟩
    · rw [List.getElem?_append_right (by rw [h.1]; exact Nat.le_refl _), h.1]; simp
    · simpa using hc
theorem UsOk.drop {w : World} {us : List Value} {L : List (List Ch)} (h : UsOk w us L) (k : Nat) : UsOk w (us.drop k) (L.drop k) := by
  refine ⟨by simp [h.1], fun i hi => ?_⟩
  rw [List.length_drop] at hi
  obtain ⟨A, c, e, hc⟩ := h.2 (k + i) (by omega)
  refine ⟨A, c, ?_, ?_⟩
  · rw [List.getElem?_drop, e, List.getElem_drop]
  · rw [List.getElem_drop]; exact hc
/-- The document's journal, as it lies in memory. -/
structure RIs (B : Nat) (w : World) (rb : Nat) (v : Value) (us : List Value) (R : RJ) : Prop where
  blk : w.heap[rb]? = some (.cells #[.int .i64 R.places, .int .i64 R.tail, .int .i64 R.first, .int .i64 R.sealed, v] 56 (0, 0))
  row : RowX w B 31 v us
  uok : UsOk w us R.l
  bd : B ≤ rb
  ne : v.ownBlock ≠ some rb
  lo : ∀ u ∈ us, ∀ k, rd u k → k < w.heap.size ∧ ¬ fp rb v k
section
variable {B rb : Nat} {v : Value} {us : List Value} {R : RJ} {w w' : World}
theorem RIs.step (h : RIs B w rb v us R) (hb : ∀ k, fp rb v k → w'.heap[k]? = w.heap[k]?) (hu : ∀ u ∈ us, ∀ k, rd u k → w'.heap[k]? = w.heap[k]?) (hs : w.heap.size ≤ w'.heap.size) : RIs B w' rb v us R :=
  ⟨(hb rb (.inl rfl)).trans h.blk, h.row.step fun k hk => hb k (.inr hk), h.uok.step hu, h.bd, h.ne, fun u hu k hk => ⟨Nat.lt_of_lt_of_le (h.lo u hu k hk).1 hs, (h.lo u hu k hk).2⟩⟩
theorem RIs.lt (h : RIs B w rb v us R) {k : Nat} (hk : fp rb v k) : k < w.heap.size := by
  rcases hk with rfl | hk
  · exact blk_lt h.blk
  · exact h.row.lt k hk
theorem RIs.ge (h : RIs B w rb v us R) {k : Nat} (hk : fp rb v k) : B ≤ k := by
  rcases hk with rfl | hk
  · exact h.bd
  · exact h.row.ge k hk
theorem RIs.below (h : RIs B w rb v us R) (hb : Below w.heap.size w w') : RIs B w' rb v us R := h.step (fun k hk => hb.block k (h.lt hk)) (fun u hu k hk => hb.block k (h.lo u hu k hk).1) hb.size
theorem RIs.c0 (h : RIs B w rb v us R) : w.cell? ⟨rb, 0, none⟩ = some (.int .i64 R.places) := (blk_cell h.blk 0).trans rfl
theorem RIs.c1 (h : RIs B w rb v us R) : w.cell? ⟨rb, 1, none⟩ = some (.int .i64 R.tail) := (blk_cell h.blk 1).trans rfl
theorem RIs.c2 (h : RIs B w rb v us R) : w.cell? ⟨rb, 2, none⟩ = some (.int .i64 R.first) := (blk_cell h.blk 2).trans rfl
theorem RIs.c3 (h : RIs B w rb v us R) : w.cell? ⟨rb, 3, none⟩ = some (.int .i64 R.sealed) := (blk_cell h.blk 3).trans rfl
theorem RIs.c4 (h : RIs B w rb v us R) : w.cell? ⟨rb, 4, none⟩ = some v := (blk_cell h.blk 4).trans rfl
theorem RIs.slice (h : RIs B w rb v us R) : ∃ A c, v = .slice A R.l.length c := by
  obtain ⟨A, c, e⟩ := h.row.slice
  exact ⟨A, c, by rw [e, h.uok.1]⟩
theorem RIs.at_ (h : RIs B w rb v us R) {i : Nat} (hi : i < R.l.length) : ∃ g off cap A c, v = .slice (some ⟨g, off, none⟩) R.l.length cap ∧ w.cell? ⟨g, off + i, none⟩ = some (.slice A R.l[i].length c) := by
  obtain ⟨A, c, e, _⟩ := h.uok.2 i hi
  obtain ⟨g, off, cap, e1, e2⟩ := h.row.cell (i := i) (by rw [h.uok.1]; exact hi)
  refine ⟨g, off, cap, A, c, by rw [e1, h.uok.1], ?_⟩
  rw [e2, ← e, List.getElem?_eq_getElem]
end
set_option maxHeartbeats 3200000 in
set_option maxRecDepth 100000 in
theorem rnew_no (n : Int) (w : World) (h : n < 8 ∨ 256 < n) : Calls Try.prog 9 #[.int .i64 n] w fun e w' => e = .returned (.tuple #[.pointer none, .int .i64 1]) ∧ Below w.heap.size w w' := by
  by_cases h1 : n < 8
  · have b1 : decide (n < 8) = true := decide_eq_true h1
    go_enter Try.func9, Try.ntmps9
    go_wp2_with fail
    go_ret2
    exact ⟨rfl, Below.refl _ _⟩
  · have b1 : decide (n < 8) = false := decide_eq_false h1
    have b2 : decide (n > 256) = true := decide_eq_true (by omega)
    go_enter Try.func9, Try.ntmps9
    go_wp2_with fail
    go_ret2
    exact ⟨rfl, Below.refl _ _⟩
def newR (n : Int) : RJ := ⟨n - 1, 0, 1, 0, []⟩
set_option maxHeartbeats 3200000 in
set_option maxRecDepth 100000 in
theorem rnew_yes (n : Int) (w : World) (h1 : 8 ≤ n) (h2 : n ≤ 256) : Calls Try.prog 9 #[.int .i64 n] w fun e w' => ∃ jb, e = .returned (.tuple #[ptr jb, .int .i64 0]) ∧ RIs w.heap.size w' jb (.slice none 0 0) [] (newR n) ∧ Below w.heap.size w w' := by
  have hu := Try.underlying56
  have b1 : decide (n < 8) = false := decide_eq_false (by omega)
  have b2 : decide (n > 256) = false := decide_eq_false (by omega)
  have w1 : IntKind.i64.wrap (n - 1) = n - 1 := IntWalk.i64_in _ (by omega)
  unfold ptr
  go_enter Try.func9, Try.ntmps9
  go_wp2_with fail
  have hJ : RIs w.heap.size (w.alloc (.cells #[.int .i64 (n - 1), .int .i64 0, .int .i64 1, .int .i64 0, .slice none 0 0] 56)) w.heap.size (.slice none 0 0) [] (newR n) := ⟨heap_alloc_new w _, .inl ⟨rfl, rfl⟩, ⟨rfl, fun i hi => by simp [newR] at hi⟩, Nat.le_refl _, by simp [Value.ownBlock], fun u hu => by simp at hu⟩
  have hB := below_alloc (Below.refl w.heap.size w) (.cells #[.int .i64 (n - 1), .int .i64 0, .int .i64 1, .int .i64 0, .slice none 0 0] 56)
  have HJ := Aside0.mk hJ
  have HB := Aside0.mk hB
  clear hJ hB
  go_ret2
  exact ⟨_, rfl, HJ.out, HB.out⟩
section
variable {B rb : Nat} {v : Value} {us : List Value} {R : RJ} {w : World}
set_option maxHeartbeats 3200000 in
set_option maxRecDepth 100000 in
theorem rnext_calls (h : RIs B w rb v us R) (h1 : 0 ≤ R.first) (h2 : R.first ≤ 1152921504606846976) (hl : R.l.length ≤ 1000) : Calls Try.prog 24 #[ptr rb] w fun e w' => e = .returned (.int .i64 (R.first + (R.l.length : Int))) ∧ Below w.heap.size w w' := by
  have hu := Try.underlying56
  have hup := Try.underlying27
  obtain ⟨A, c, rfl⟩ := h.slice
  have c2 := h.c2
  have c4 := h.c4
  have w1 : IntKind.i64.wrap (R.first + (R.l.length : Int)) = R.first + (R.l.length : Int) := IntWalk.i64_in _ (by omega)
  clear h
  unfold ptr
  go_enter Try.func24, Try.ntmps24
  go_wp2_with fail
  go_big_quiet (fail)
  all_goals go_wp2_with fail
  all_goals go_ret
  all_goals exact ⟨rfl, below_n (Below.refl _ _) _⟩
set_option maxHeartbeats 3200000 in
set_option maxRecDepth 100000 in
theorem rfree_calls (h : RIs B w rb v us R) (hw : JW R.jr) : Calls Try.prog 22 #[ptr rb] w fun e w' => e = .returned (.int .i64 (R.places - (R.jr.sizes.sum : Nat))) ∧ Below w.heap.size w w' := by
  have hu := Try.underlying56
  have hup := Try.underlying27
  obtain ⟨A, c, rfl⟩ := h.slice
  have c0 := h.c0
  have c4 := h.c4
  have H := Aside0.mk h
  have HW := Aside0.mk hw
  have hp := hw.r255
  have hp7 := hw.r7
  have hlen := hw.sml.2
  rw [R.len] at hlen
  have hp' : R.places ≤ 255 := hp
  have hp7' : 7 ≤ R.places := hp7
  clear h hw hp hp7
  unfold ptr
  go_enter Try.func22, Try.ntmps22
  go_wp2_with fail
  go_loopw [3, 15] (fun v3 v15 wr => ∃ i : Nat, i ≤ R.l.length ∧ v15 = .int .i64 (i : Int) ∧ v3 = .int .i64 (R.places - ((R.jr.sizes.take i).sum : Nat)) ∧ Aside0 (Below w.heap.size w wr)) (fun _ x _ => R.l.length - (intOf x).toNat)
  case atStart => exact ⟨0, by omega, rfl, by simp, ⟨Below.refl _ _⟩⟩
  case round =>
    clear c0 c4
    obtain ⟨i, hi, rfl, rfl, HB⟩ := hrel
    by_cases hlt : i < R.l.length
    · obtain ⟨g, off, cap, A', c', e1, e2⟩ := (H.out.below HB.out).at_ hlt
      simp only [Value.slice.injEq] at e1
      obtain ⟨rfl, -, rfl⟩ := e1
      have hT := sum_take_succ R.jr.sizes i (by rw [R.len]; exact hlt)
      have hle := sum_take_le R.jr.sizes (i + 1)
      have hss : R.jr.sizes.sum ≤ 255 := HW.out.sml.1
      have hx : R.jr.sizes[i]'(by rw [R.len]; exact hlt) = R.l[i].length + 1 := by simp [RJ.jr]
      rw [hx] at hT
      generalize R.l[i].length = x at e2 hT
      generalize (R.jr.sizes.take i).sum = y at hT ⊢
      have w1 : IntKind.i64.wrap (R.places - (y : Int) - (x : Int)) = R.places - (y : Int) - (x : Int) := IntWalk.i64_in _ (by omega)
      have w2 : IntKind.i64.wrap (R.places - (y : Int) - (x : Int) - 1) = R.places - (y : Int) - (x : Int) - 1 := IntWalk.i64_in _ (by omega)
      have HT : Aside0 (R.places - (((R.jr.sizes.take (i + 1)).sum : Nat) : Int) = R.places - (y : Int) - (x : Int) - 1) := ⟨by rw [hT]; omega⟩
      clear hT hle hx hss
      go_wp2_with fail
      go_roundw
      case rel => exact ⟨i + 1, by omega, by simp, by rw [HT.out], HB⟩
      case measure => simp [intOf]; omega
    · obtain rfl : i = R.l.length := by omega
      have e : R.jr.sizes.take R.l.length = R.jr.sizes := List.take_of_length_le (by rw [R.len]; exact Nat.le_refl _)
      rw [e]
      go_wp2_with fail
      go_ret
      exact ⟨rfl, by first | exact HB.out | exact below_drew1 HB.out⟩
set_option maxHeartbeats 3200000 in
set_option maxRecDepth 100000 in
theorem rheader_calls (h : RIs B w rb v us R) (hw : HW R.jr) : Calls Try.prog 20 #[ptr rb] w fun e w' => e = .returned (.string (headJ R.jr)) ∧ Below w.heap.size w w' := by
  have hu := Try.underlying56
  have hup := Try.underlying27
  have HC : Aside0 (∀ W, Below w.heap.size w W → W.cell? ⟨rb, 1, none⟩ = some (.int .i64 R.tail) ∧ W.cell? ⟨rb, 2, none⟩ = some (.int .i64 R.first) ∧ W.cell? ⟨rb, 3, none⟩ = some (.int .i64 R.sealed)) := ⟨fun W hb => ⟨(h.below hb).c1, (h.below hb).c2, (h.below hb).c3⟩⟩
  obtain ⟨T, hT⟩ : ∃ T, T = (⟨#[72]⟩ : ByteArray) ++ strOfNums (le R.tail 2) ++ strOfNums (le R.first 8) ++ strOfNums (le (R.first + R.sealed) 8) := ⟨_, rfl⟩
  have HT : Aside0 (headJ R.jr = (blockS T).1) := ⟨by rw [hT]; show (blockS (headTx R.jr)).1 = _; unfold headTx; rw [← strOfNums_append, ← strOfNums_append]; simp only [ByteArray.append_assoc]; rfl⟩
  have HZ : Aside0 (T.size = 19) := ⟨by rw [hT]; simp only [ByteArray.size_append, strOfNums_size, le_length]; rfl⟩
  have t0 : 0 ≤ R.tail := hw.t0
  have tr : R.tail < 65536 := hw.tr
  have f1 : 0 ≤ R.first := hw.f1
  have f2 : R.first ≤ 1152921504606846976 := hw.f2
  have n1 : 0 ≤ R.first + R.sealed := hw.n1
  have n2 : R.first + R.sealed ≤ 1152921504606846976 := hw.n2
  generalize headJ R.jr = hJ at HT ⊢
  have w1 : IntKind.i64.wrap (R.first + R.sealed) = R.first + R.sealed := IntWalk.i64_in _ (by omega)
  have K1 : Aside0 (∀ W : World, Calls Try.prog 40 #[.int .i64 R.tail, .int .i64 2] W fun e w' => e = .returned (.string (strOfNums (le R.tail 2))) ∧ Below W.heap.size W w') := ⟨C.rfix_calls R.tail 2 t0 (by omega) (by omega)⟩
  have K2 : Aside0 (∀ W : World, Calls Try.prog 40 #[.int .i64 R.first, .int .i64 8] W fun e w' => e = .returned (.string (strOfNums (le R.first 8))) ∧ Below W.heap.size W w') := ⟨C.rfix_calls R.first 8 f1 (by omega) (by omega)⟩
  have K3 : Aside0 (∀ W : World, Calls Try.prog 40 #[.int .i64 (R.first + R.sealed), .int .i64 8] W fun e w' => e = .returned (.string (strOfNums (le (R.first + R.sealed) 8))) ∧ Below W.heap.size W w') := ⟨C.rfix_calls (R.first + R.sealed) 8 n1 (by omega) (by omega)⟩
  have z1 : (strOfNums (le R.tail 2)).size ≤ 8 := by rw [strOfNums_size, le_length]; omega
  have z2 : (strOfNums (le R.first 8)).size ≤ 8 := by rw [strOfNums_size, le_length]; omega
  have z3 : (strOfNums (le (R.first + R.sealed) 8)).size ≤ 8 := by rw [strOfNums_size, le_length]; omega
  generalize strOfNums (le R.tail 2) = F1 at hT K1 z1
  generalize strOfNums (le R.first 8) = F2 at hT K2 z2
  generalize strOfNums (le (R.first + R.sealed) 8) = F3 at hT K3 z3
  have y1 : ¬ 9223372036854775807 < 1 + F1.size := by omega
  have y2 : ¬ 9223372036854775807 < 1 + F1.size + F2.size := by omega
  have y3 : ¬ 9223372036854775807 < 1 + F1.size + F2.size + F3.size := by omega
  have HTe := Aside0.mk hT
  have HX : Aside0 (∀ W : World, Calls Try.prog 39 #[.string (⟨#[72]⟩ ++ F1 ++ F2 ++ F3)] W fun e w' => e = .returned (.tuple #[.string hJ, .int .i64 (blockS T).2]) ∧ Below W.heap.size W w') := ⟨fun W => by
    rw [← HTe.out]
    exact C.cartularyref03_Block.calls T hJ (blockS T).2 W (by rw [HT.out]; exact C.lim_ok _ (by rw [HZ.out]; omega))⟩
  clear h hw hT
  unfold ptr
  go_enter Try.func20, Try.ntmps20
  go_wp2_with fail
  have B0 : Aside0 (Below w.heap.size w w.drew) := ⟨below_drew1 (Below.refl _ _)⟩
  go_region_held3 (fun w' => w'.cell? ⟨rb, 1, none⟩ = some (.int .i64 R.tail) ∧ w'.cell? ⟨rb, 2, none⟩ = some (.int .i64 R.first) ∧ w'.cell? ⟨rb, 3, none⟩ = some (.int .i64 R.sealed)) (first | exact HC.out _ B0.out | exact HC.out _ B1.out | exact HC.out _ B2.out | exact HC.out _ B3.out | exact HC.out _ B4.out) (first
    | (go_at_call 40; first
      | ((with_reducible refine (K1.out _).mono ?_); rintro e w1 ⟨rfl, hB⟩; have B1 := Aside0.mk (B0.out.trans (hB.mono B0.out.size)); clear hB)
      | ((with_reducible refine (K2.out _).mono ?_); rintro e w2 ⟨rfl, hB⟩; have B2 := Aside0.mk (B1.out.trans (hB.mono B1.out.size)); clear hB)
      | ((with_reducible refine (K3.out _).mono ?_); rintro e w3 ⟨rfl, hB⟩; have B3 := Aside0.mk (B2.out.trans (hB.mono B2.out.size)); clear hB))
    | (go_at_call 39; refine (HX.out _).mono ?_; rintro e w4 ⟨rfl, hB⟩; have B4 := Aside0.mk (B3.out.trans (hB.mono B3.out.size)); clear hB))
  all_goals go_wp2_with fail
  all_goals go_ret
  all_goals exact ⟨rfl, B4.out⟩
end
end Go.Proofs.Ytlmnfnkjbgnklaa.Jrnl
end

section
/- The document's journal in memory: Seal, Done. -/
set_option linter.unusedVariables false
set_option linter.unusedSimpArgs false
namespace Go.Proofs.Ytlmnfnkjbgnklaa.Jrnl
open Go.RowKit Go.Proofs.YtlmnfnkjbgnklaaW.PrintWords Go.Proofs.YtlmnfnkjbgnklaaW.PrintLast Go.Proofs.YtlmnfnkjbgnklaaW.PrintMore Go.Proofs.Ytlmnfnkjbgnklaa.TxnS Go.Proofs.Ytlmnfnkjbgnklaa.Txn Go.Proofs.Ytlmnfnkjbgnklaa.JS Go.Proofs.Ytlmnfnkjbgnklaa.Run Go.Proofs.Ytlmnfnkjbgnklaa.Spec
/-- 'xs[k:]'. -/
theorem RowX_cut2 {w : World} {B : Nat} {e : TypeId} {xs : List Value} {A : Option Addr} {n c k : Nat} (h : RowX w B e (.slice A n c) xs) (hn : n = xs.length) (hk : k ≤ n) : RowX w B e (.slice (if c = k then A else A.map (fun x => x.add k)) (n - k) (c - k)) (xs.drop k) ∧ (Value.slice (if c = k then A else A.map (fun x => x.add k)) (n - k) (c - k)).ownBlock = (Value.slice A n c).ownBlock := by
  subst hn
  have hc : xs.length ≤ c := by
    rcases h with ⟨h1, h2⟩ | ⟨g, off, cap, C, h1, _, _, h3, _⟩
    · simp only [Value.slice.injEq] at h1; omega
    · simp only [Value.slice.injEq] at h1; omega
  by_cases he : c = k
  · obtain rfl : xs.length = c := by omega
    have := RowX.cut (k := k) h rfl (by omega)
    rw [if_pos he] at this ⊢
    exact this
  · rw [if_neg he]
    have h2 := h.drop A xs.length c k rfl hk (c - k) (by omega) (by omega)
    have e : (A.map fun a => (⟨a.block, a.off + k, a.spot⟩ : Addr)) = A.map (fun x => x.add k) := by
      rcases h with ⟨h1, _⟩ | ⟨g, off, cap, C, h1, _⟩
      · simp only [Value.slice.injEq] at h1
        rw [h1.1]; rfl
      · simp only [Value.slice.injEq] at h1
        rw [h1.1]; simp [Addr.add]
    refine ⟨by rwa [e] at h2, ?_⟩
    rcases h with ⟨h1, _⟩ | ⟨g, off, cap, C, h1, _⟩
    · simp only [Value.slice.injEq] at h1
      rw [h1.1]; rfl
    · simp only [Value.slice.injEq] at h1
      rw [h1.1]; simp only [Option.map_some, Value.ownBlock, Addr.add]; split <;> rfl
def RPost (B rb : Nat) (v : Value) (w : World) (r : Value) (us' : List Value) (R' : RJ) (e : Ending) (w' : World) : Prop :=
  ∃ v', e = .returned r ∧ RIs B w' rb v' us' R' ∧ Fr w w' (fp rb v) ∧ ∀ k, fp rb v' k → fp rb v k ∨ w.heap.size ≤ k
section
variable {B rb : Nat} {v : Value} {us : List Value} {R : RJ} {w w' : World}
theorem RIs.fr {f : Nat → Prop} (h : RIs B w rb v us R) (hf : Fr w w' f) (hd : ∀ k, fp rb v k → ¬ f k) (hu : ∀ u ∈ us, ∀ k, rd u k → ¬ f k) : RIs B w' rb v us R := h.step (fun k hk => hf.block k (h.lt hk) (hd k hk)) (fun u hm k hk => hf.block k (h.lo u hm k hk).1 (hu u hm k hk)) hf.size
/-- One number of it is set. -/
theorem RIs.set (h : RIs B w rb v us R) (i : Nat) (x : Value) (R' : RJ) (hl : R'.l = R.l) (hc : (#[.int .i64 R.places, .int .i64 R.tail, .int .i64 R.first, .int .i64 R.sealed, v] : Array Value).setIfInBounds i x = #[.int .i64 R'.places, .int .i64 R'.tail, .int .i64 R'.first, .int .i64 R'.sealed, v]) : RIs B (w.setCell ⟨rb, i, none⟩ x) rb v us R' := by
  have hs : (w.setCell ⟨rb, i, none⟩ x).heap.size = w.heap.size := by simp [World.setCell]
  refine ⟨?_, h.row.step fun k hk => blk_set_ne i _ (fun e => h.ne (e ▸ hk)), ?_, h.bd, h.ne, fun u hu k hk => by rw [hs]; exact h.lo u hu k hk⟩
  · rw [← hc]; exact blk_set h.blk i x
  · rw [hl]
    exact h.uok.step fun u hu k hk => blk_set_ne i _ (fun e => (h.lo u hu k hk).2 (.inl e.symm))
/-- Its row is set. -/
theorem RIs.set4 {v' : Value} {us' : List Value} {l' : List (List Ch)} (h : RIs B w rb v us R) (hr : RowX w B 31 v' us') (hu : UsOk w us' l') (hn : v'.ownBlock ≠ some rb) (hlo : ∀ u ∈ us', ∀ k, rd u k → k < w.heap.size ∧ ¬ fp rb v' k) : RIs B (w.setCell ⟨rb, 4, none⟩ v') rb v' us' { R with l := l' } := by
  have hs : (w.setCell ⟨rb, 4, none⟩ v').heap.size = w.heap.size := by simp [World.setCell]
  exact ⟨blk_set h.blk 4 _, hr.step fun k hk => blk_set_ne 4 _ (fun e => hn (e ▸ hk)), hu.step fun u hm k hk => blk_set_ne 4 _ (fun e => (hlo u hm k hk).2 (.inl e.symm)), h.bd, hn, fun u hm k hk => by rw [hs]; exact hlo u hm k hk⟩
def sealR (R : RJ) : RJ := { R with sealed := R.l.length }
theorem sealR_jr (R : RJ) : (sealR R).jr = sealJ R.jr := by simp [sealR, sealJ, RJ.jr]
set_option maxHeartbeats 3200000 in
set_option maxRecDepth 100000 in
theorem rseal_calls (h : RIs B w rb v us R) (hw : JW R.jr) : Calls Try.prog 17 #[ptr rb] w (RPost B rb v w (.agg #[.int .i64 0, .string (headJ (sealJ R.jr))]) us (sealR R)) := by
  have hu := Try.underlying56
  have hup := Try.underlying27
  have huw := Try.underlying45
  obtain ⟨A, c, rfl⟩ := h.slice
  have P1 := Aside0.mk (blk_new w (.cells #[.int .i64 0, .string ⟨#[]⟩] 45))
  have B1 := Aside0.mk (below_alloc (Below.refl w.heap.size w) (.cells #[.int .i64 0, .string ⟨#[]⟩] 45))
  have H1 := Aside0.mk (h.below B1.out)
  have HJ : Aside0 (∀ k, fp rb (.slice A R.l.length c) k → k < w.heap.size) := ⟨fun k hk => h.lt hk⟩
  have HLo := Aside0.mk h.lo
  have HW := Aside0.mk hw
  clear h hw
  unfold ptr
  go_enter Try.func17, Try.ntmps17
  go_upto_region 1 with fail
  generalize hW : w.alloc (.cells #[.int .i64 0, .string ⟨#[]⟩] 45) = W1 at P1 B1 H1 ⊢
  clear hW
  have c4 := H1.out.c4
  have f3 := blk_frozen H1.out.blk 3
  have c3 := H1.out.c3
  go_upto_region 2 with fail
  have hne : rb ≠ w.heap.size := by have := HJ.out rb (.inl rfl); omega
  have H2 : Aside0 (RIs B (W1.setCell ⟨rb, 3, none⟩ (.int .i64 (R.l.length : Int))) rb (.slice A R.l.length c) us (sealR R)) := ⟨H1.out.set 3 _ (sealR R) rfl rfl⟩
  have F2 : Aside0 (Fr w (W1.setCell ⟨rb, 3, none⟩ (.int .i64 (R.l.length : Int))) (fp rb (.slice A R.l.length c))) := ⟨(Fr.of_below B1.out _).trans (Fr.set W1 rb 3 _ (.inl rfl)) (fun _ h => .inl h)⟩
  have P2 := Aside0.mk ((blk_set_ne 3 (.int .i64 (R.l.length : Int)) hne).trans P1.out)
  have S2 : Aside0 (w.heap.size < (W1.setCell ⟨rb, 3, none⟩ (.int .i64 (R.l.length : Int))).heap.size) := ⟨blk_lt P2.out⟩
  generalize W1.setCell ⟨rb, 3, none⟩ (.int .i64 (R.l.length : Int)) = W2 at H2 F2 P2 S2 ⊢
  clear c4 f3 c3 H1 B1 P1
  have HX := Aside0.mk (rheader_calls H2.out (by rw [sealR_jr]; exact (sealJ_ok HW.out).hw))
  rw [sealR_jr] at HX
  obtain ⟨hd, hhd⟩ : ∃ hd, hd = headJ (sealJ R.jr) := ⟨_, rfl⟩
  rw [← hhd] at HX
  have HH := Aside0.mk hhd
  clear hhd
  unfold ptr at HX
  go_wp2_with fail
  refine HX.out.mono ?_
  rintro e w3 ⟨rfl, hB⟩
  have H3 := Aside0.mk (H2.out.below hB)
  have F3 := Aside0.mk (F2.out.trans (Fr.of_below hB (fp rb (.slice A R.l.length c))) (fun _ h => .inl h))
  have P3 := Aside0.mk ((hB.block _ S2.out).trans P2.out)
  obtain ⟨g, hg⟩ : ∃ g, g = w.heap.size := ⟨_, rfl⟩
  rw [← hg] at P3 ⊢
  have HG := Aside0.mk hg
  clear hB H2 F2 P2 S2 HX hne hg
  have p0 := (blk_cell P3.out 0).trans (Eq.refl (some (Value.int .i64 0)))
  have p1 := (blk_cell P3.out 1).trans (Eq.refl (some (Value.string ⟨#[]⟩)))
  have f0 := blk_frozen P3.out 0
  have f1 := blk_frozen P3.out 1
  go_wp2_with fail
  have P4 : Aside0 (((w3.setCell ⟨g, 0, none⟩ (.int .i64 0)).setCell ⟨g, 1, none⟩ (.string hd)).heap[g]? = some (.cells #[.int .i64 0, .string hd] 45 (0, 0))) := ⟨(blk_set (blk_set P3.out 0 _) 1 _).trans rfl⟩
  have F4 : Aside0 (Fr w3 ((w3.setCell ⟨g, 0, none⟩ (.int .i64 0)).setCell ⟨g, 1, none⟩ (.string hd)) (· = g)) := ⟨(Fr.set w3 g 0 (.int .i64 0) (f := (· = g)) rfl).trans (Fr.set _ g 1 (.string hd) (f := (· = g)) rfl) (fun _ h => .inl h)⟩
  generalize (w3.setCell ⟨g, 0, none⟩ (.int .i64 0)).setCell ⟨g, 1, none⟩ (.string hd) = w4 at P4 F4 ⊢
  clear p0 p1 f0 f1
  have p0 := (blk_cell P4.out 0).trans (Eq.refl (some (Value.int .i64 0)))
  have p1 := (blk_cell P4.out 1).trans (Eq.refl (some (Value.string hd)))
  refine bodyPost_ret (v := .agg #[.int .i64 0, .string hd]) (by simp [results, Try.results17, go_sem, p0, p1, huw]) rfl ⟨_, by rw [HH.out], H3.out.fr F4.out (fun k hk e => ?_) (fun u hm k hk e => ?_), F3.out.trans F4.out (fun k hk => .inr (by rw [hk, HG.out]; exact Nat.le_refl _)), fun k hk => .inl hk⟩
  · have h1 := HJ.out k hk
    rw [e, HG.out] at h1
    exact Nat.lt_irrefl _ h1
  · have h1 := (HLo.out u hm k hk).1
    rw [e, HG.out] at h1
    exact Nat.lt_irrefl _ h1
set_option maxHeartbeats 3200000 in
set_option maxRecDepth 100000 in
theorem rdone_no (h : RIs B w rb v us R) (k : Int) (hk : k < 0 ∨ R.sealed < k) : Calls Try.prog 15 #[ptr rb, .int .i64 k] w fun e w' => e = .returned (.tuple #[.agg #[.int .i64 0, .string ⟨#[]⟩], .int .i64 1]) ∧ Below w.heap.size w w' := by
  have hu := Try.underlying56
  have hup := Try.underlying27
  have huw := Try.underlying45
  have P1 := Aside0.mk (blk_new w (.cells #[.int .i64 0, .string ⟨#[]⟩] 45))
  have B1 := Aside0.mk (below_alloc (Below.refl w.heap.size w) (.cells #[.int .i64 0, .string ⟨#[]⟩] 45))
  have c3 := (h.below B1.out).c3
  clear h
  generalize R.sealed = sl at *
  obtain ⟨g, hg⟩ : ∃ g, g = w.heap.size := ⟨_, rfl⟩
  have HG := Aside0.mk hg
  have hb : decide (k < 0) = true ∨ (decide (k < 0) = false ∧ decide (k > sl) = true) := by simp; omega
  unfold ptr at *
  go_enter Try.func15, Try.ntmps15
  go_upto_region 1 with fail
  generalize hW : w.alloc (.cells #[.int .i64 0, .string ⟨#[]⟩] 45) = W1 at P1 B1 c3 ⊢
  clear hW
  rw [← hg] at P1 ⊢
  clear hg
  have p0 := (blk_cell P1.out 0).trans (Eq.refl (some (Value.int .i64 0)))
  have p1 := (blk_cell P1.out 1).trans (Eq.refl (some (Value.string ⟨#[]⟩)))
  have f0 := blk_frozen P1.out 0
  have f1 := blk_frozen P1.out 1
  have P4 : Aside0 (((W1.setCell ⟨g, 0, none⟩ (.int .i64 0)).setCell ⟨g, 1, none⟩ (.string ⟨#[]⟩)).heap[g]? = some (.cells #[.int .i64 0, .string ⟨#[]⟩] 45 (0, 0))) := ⟨(blk_set (blk_set P1.out 0 _) 1 _).trans rfl⟩
  have B4 : Aside0 (Below w.heap.size w ((W1.setCell ⟨g, 0, none⟩ (.int .i64 0)).setCell ⟨g, 1, none⟩ (.string ⟨#[]⟩))) := ⟨(B1.out.setCell (p := ⟨g, 0, none⟩) (by rw [HG.out]; exact Nat.le_refl _) _).setCell (p := ⟨g, 1, none⟩) (by rw [HG.out]; exact Nat.le_refl _) _⟩
  rcases hb with b1 | ⟨b1, b2⟩
  all_goals
    go_wp2_with fail
    generalize (W1.setCell ⟨g, 0, none⟩ (.int .i64 0)).setCell ⟨g, 1, none⟩ (.string ⟨#[]⟩) = w4 at P4 B4 ⊢
    clear p0 p1 f0 f1
    have p0 := (blk_cell P4.out 0).trans (Eq.refl (some (Value.int .i64 0)))
    have p1 := (blk_cell P4.out 1).trans (Eq.refl (some (Value.string ⟨#[]⟩)))
    exact bodyPost_ret (v := .tuple #[.agg #[.int .i64 0, .string ⟨#[]⟩], .int .i64 1]) (by simp [results, Try.results15, go_sem, p0, p1, huw]) rfl ⟨rfl, B4.out⟩
def doneR (R : RJ) (k : Nat) : RJ := ⟨R.places, (R.tail + ((R.jr.sizes.take k).sum : Int)) % R.places, R.first + k, R.sealed - k, R.l.drop k⟩
theorem doneR_jr (R : RJ) (k : Nat) : (doneR R k).jr = doneJ R.jr k := by simp [doneR, doneJ, RJ.jr, List.map_drop]
set_option maxHeartbeats 6400000 in
set_option maxRecDepth 100000 in
theorem rdone_yes (h : RIs B w rb v us R) (hw : JW R.jr) (k : Nat) (hk : (k : Int) ≤ R.sealed) : Calls Try.prog 15 #[ptr rb, .int .i64 (k : Int)] w (RPost B rb v w (.tuple #[.agg #[.int .i64 0, .string (headJ (doneJ R.jr k))], .int .i64 0]) (us.drop k) (doneR R k)) := by
  have hu := Try.underlying56
  have hup := Try.underlying27
  have huw := Try.underlying45
  obtain ⟨A, c, rfl⟩ := h.slice
  have P1 := Aside0.mk (blk_new w (.cells #[.int .i64 0, .string ⟨#[]⟩] 45))
  have B1 := Aside0.mk (below_alloc (Below.refl w.heap.size w) (.cells #[.int .i64 0, .string ⟨#[]⟩] 45))
  have H1 := Aside0.mk (h.below B1.out)
  have HJ : Aside0 (∀ k, fp rb (.slice A R.l.length c) k → k < w.heap.size) := ⟨fun k hk => h.lt hk⟩
  have HLo := Aside0.mk h.lo
  have HW := Aside0.mk hw
  have hsn : R.sealed ≤ (R.jr.sizes.length : Int) := hw.sn
  rw [R.len] at hsn
  have hkl : k ≤ R.l.length := by omega
  have hsm : R.jr.sizes.sum ≤ 255 := hw.sml.1
  have hln : R.l.length ≤ 255 := by have := hw.sml.2; rwa [R.len] at this
  have ht1 : 0 ≤ R.tail := hw.t0
  have ht2 : R.tail < R.places := hw.tr
  have ht3 : R.places ≤ 255 := hw.r255
  have ht4 : 1 ≤ R.first := hw.f1
  have ht5 : R.first + (R.jr.sizes.length : Int) ≤ 1099511628076 := hw.fn
  rw [R.len] at ht5
  have b1 : decide ((k : Int) < 0) = false := decide_eq_false (by omega)
  have b2 : decide ((k : Int) > R.sealed) = false := decide_eq_false (by omega)
  have q2 : IntKind.i64.wrap (R.first + (k : Int)) = R.first + (k : Int) := IntWalk.i64_in _ (by omega)
  have q3 : IntKind.i64.wrap (R.sealed - (k : Int)) = R.sealed - (k : Int) := IntWalk.i64_in _ (by omega)
  have hr0 : (R.places == 0) = false := by simp; omega
  obtain ⟨g, hg⟩ : ∃ g, g = w.heap.size := ⟨_, rfl⟩
  have HG := Aside0.mk hg
  have HKs := Aside0.mk hk
  have c3 := H1.out.c3
  clear h hw hk
  unfold ptr at *
  go_enter Try.func15, Try.ntmps15
  go_upto_region 1 with fail
  generalize hW : w.alloc (.cells #[.int .i64 0, .string ⟨#[]⟩] 45) = W1 at P1 B1 H1 c3 ⊢
  clear hW
  rw [← hg] at P1 ⊢
  clear hg
  have hjg : rb ≠ g := by have := HJ.out rb (.inl rfl); have := HG.out; omega
  have HJG := Aside0.mk hjg
  clear hjg
  go_wp2_with fail
  go_loopw [6] (fun v6 wr => ∃ i : Nat, i ≤ k ∧ v6 = .int .i64 (i : Int) ∧ Aside0 (RIs B wr rb (.slice A R.l.length c) us { R with tail := (R.tail + ((R.jr.sizes.take i).sum : Int)) % R.places }) ∧ Aside0 (Fr w wr (fp rb (.slice A R.l.length c))) ∧ Aside0 (wr.heap[g]? = some (.cells #[.int .i64 0, .string ⟨#[]⟩] 45 (0, 0)))) (fun x _ => k - (intOf x).toNat)
  case atStart =>
    refine ⟨0, by omega, rfl, ⟨?_⟩, ⟨Fr.of_below B1.out _⟩, P1⟩
    have e : (R.tail + ((R.jr.sizes.take 0).sum : Int)) % R.places = R.tail := by rw [List.take_zero]; simp; exact Int.emod_eq_of_lt ht1 ht2
    rw [e]
    exact H1.out
  case round =>
    clear c3 P1 H1 B1
    obtain ⟨i, hi, rfl, HS, HF, HP⟩ := hrel
    by_cases hlt : i < k
    · have hkl' : i < R.l.length := by omega
      obtain ⟨gL, off, cap, A', c', e1, e2⟩ := HS.out.at_ (i := i) hkl'
      dsimp only at e1 e2
      simp only [Value.slice.injEq] at e1
      obtain ⟨rfl, -, rfl⟩ := e1
      have hT := sum_take_succ R.jr.sizes i (by rw [R.len]; exact hkl')
      have hle := sum_take_le R.jr.sizes (i + 1)
      have hx : R.jr.sizes[i]'(by rw [R.len]; exact hkl') = R.l[i].length + 1 := by simp [RJ.jr]
      rw [hx] at hT
      have HS' := HS.out
      generalize R.l[i].length = x at e2 hT
      obtain ⟨T, hTe⟩ : ∃ T, T = (R.tail + ((R.jr.sizes.take i).sum : Int)) % R.places := ⟨_, rfl⟩
      rw [← hTe] at HS'
      have hT0 : 0 ≤ T := by rw [hTe]; exact Int.emod_nonneg _ (by omega)
      have hTr : T < R.places := by rw [hTe]; exact Int.emod_lt_of_pos _ (by omega)
      obtain ⟨T2, hT2⟩ : ∃ T2, T2 = (T + (x : Int) + 1) % R.places := ⟨_, rfl⟩
      have HE2 : Aside0 (T2 = (R.tail + ((R.jr.sizes.take (i + 1)).sum : Int)) % R.places) := ⟨by
        rw [hT2, hTe, hT, Int.add_assoc, Int.emod_add_emod]
        congr 1
        omega⟩
      have c1 := HS'.c1
      have c0 := HS'.c0
      have c4 := HS'.c4
      have f1 := blk_frozen HS'.blk 1
      dsimp only at c0 c1 c4
      have w1 : IntKind.i64.wrap (T + (x : Int)) = T + (x : Int) := IntWalk.i64_in _ (by omega)
      have w2 : IntKind.i64.wrap (T + (x : Int) + 1) = T + (x : Int) + 1 := IntWalk.i64_in _ (by omega)
      have hp1 : 0 ≤ T + (x : Int) := by omega
      have hp2 : 0 ≤ T + (x : Int) + 1 := by omega
      have hr1 : ¬ R.places = 0 := by omega
      have HS2 := Aside0.mk HS'
      have HT2 := Aside0.mk hT2
      have HTm : Aside0 ((T + (x : Int) + 1).tmod R.places = T2) := ⟨by rw [hT2]; exact Int.tmod_eq_emod_of_nonneg hp2⟩
      have hT3 : (T + (x : Int) + 1) % R.places = T2 := hT2.symm
      clear HS' hT hle hx hTe hT2
      go_wp2_with fail
      go_region
      all_goals
        go_wp2_with fail
        go_roundw
        case rel =>
          refine ⟨i + 1, by omega, by simp, ⟨?_⟩, ⟨?_⟩, ⟨?_⟩⟩
          · rw [← HE2.out]
            exact (HS2.out.set 1 (.int .i64 T2) { R with tail := T2 } rfl rfl).below (below_drew1 (Below.refl _ _))
          · exact (HF.out.trans (Fr.set wr rb 1 (.int .i64 T2) (f := fp rb (.slice (some ⟨gL, off, none⟩) R.l.length c)) (.inl rfl)) (fun _ h => .inl h)).trans (Fr.of_below (below_drew1 (Below.refl _ _)) (fp rb (.slice (some ⟨gL, off, none⟩) R.l.length c))) (fun _ h => .inl h)
          · exact (blk_set_ne 1 (.int .i64 T2) HJG.out).trans HP.out
        case measure => simp [intOf]; omega
    · obtain rfl : i = k := by omega
      obtain ⟨T', hT'⟩ : ∃ T', T' = (R.tail + ((R.jr.sizes.take i).sum : Int)) % R.places := ⟨_, rfl⟩
      have HT' := Aside0.mk hT'
      rw [← hT'] at HS
      have H3 := HS
      have F3 := HF
      have P3 := HP
      clear hT' HS HF HP
      have c2 := H3.out.c2
      have f2 := blk_frozen H3.out.blk 2
      dsimp only at c2
      go_upto_region 8 with fail
      have H4 : Aside0 (RIs B (wr.setCell ⟨rb, 2, none⟩ (.int .i64 (R.first + (i : Int)))) rb (.slice A R.l.length c) us ⟨R.places, T', R.first + (i : Int), R.sealed, R.l⟩) := ⟨H3.out.set 2 _ ⟨R.places, T', R.first + (i : Int), R.sealed, R.l⟩ rfl rfl⟩
      have F4 := Aside0.mk (F3.out.trans (Fr.set wr rb 2 (.int .i64 (R.first + (i : Int))) (f := fp rb (.slice A R.l.length c)) (.inl rfl)) (fun _ h => .inl h))
      have P4 := Aside0.mk ((blk_set_ne 2 (.int .i64 (R.first + (i : Int))) HJG.out).trans P3.out)
      generalize wr.setCell ⟨rb, 2, none⟩ (.int .i64 (R.first + (i : Int))) = w4 at H4 F4 P4 ⊢
      clear c2 f2 H3 F3 P3 q2
      have c3 := H4.out.c3
      have f3 := blk_frozen H4.out.blk 3
      dsimp only at c3
      go_upto_region 9 with fail
      have H5 : Aside0 (RIs B (w4.setCell ⟨rb, 3, none⟩ (.int .i64 (R.sealed - (i : Int)))) rb (.slice A R.l.length c) us ⟨R.places, T', R.first + (i : Int), R.sealed - (i : Int), R.l⟩) := ⟨H4.out.set 3 _ ⟨R.places, T', R.first + (i : Int), R.sealed - (i : Int), R.l⟩ rfl rfl⟩
      have F5 := Aside0.mk (F4.out.trans (Fr.set w4 rb 3 (.int .i64 (R.sealed - (i : Int))) (f := fp rb (.slice A R.l.length c)) (.inl rfl)) (fun _ h => .inl h))
      have P5 := Aside0.mk ((blk_set_ne 3 (.int .i64 (R.sealed - (i : Int))) HJG.out).trans P4.out)
      generalize w4.setCell ⟨rb, 3, none⟩ (.int .i64 (R.sealed - (i : Int))) = w5 at H5 F5 P5 ⊢
      clear c3 f3 H4 F4 P4 q3
      have c4 := H5.out.c4
      have f4 := blk_frozen H5.out.blk 4
      have hus : us.length = R.l.length := H5.out.uok.1
      have hlc : R.l.length ≤ c := by
        rcases H5.out.row with ⟨h1, h2⟩ | ⟨g, off, cap, C, h1, _, _, h3, _⟩
        · simp only [Value.slice.injEq] at h1; omega
        · simp only [Value.slice.injEq] at h1
          omega
      have hic : i ≤ c := by omega
      go_upto_region 10 with fail
      obtain ⟨hr6, ho6⟩ := RowX_cut2 (k := i) H5.out.row hus.symm hkl
      have hn6 := H5.out.ne
      rw [← ho6] at hn6
      have hlo6 : ∀ u ∈ us.drop i, ∀ k, rd u k → k < w5.heap.size ∧ ¬ fp rb (.slice (if c = i then A else A.map fun x => x.add i) (R.l.length - i) (c - i)) k := fun u hm k hk => by
        have h1 := H5.out.lo u (List.mem_of_mem_drop hm) k hk
        refine ⟨h1.1, fun hf => h1.2 ?_⟩
        rcases hf with rfl | hf
        · exact .inl rfl
        · exact .inr (by rwa [ho6] at hf)
      have H6 : Aside0 (RIs B (w5.setCell ⟨rb, 4, none⟩ (.slice (if c = i then A else A.map fun x => x.add i) (R.l.length - i) (c - i))) rb (.slice (if c = i then A else A.map fun x => x.add i) (R.l.length - i) (c - i)) (us.drop i) (doneR R i)) := ⟨by
        have := H5.out.set4 hr6 (H5.out.uok.drop i) hn6 hlo6
        unfold doneR
        rw [← HT'.out]
        exact this⟩
      have F6 := Aside0.mk (F5.out.trans (Fr.set w5 rb 4 (.slice (if c = i then A else A.map fun x => x.add i) (R.l.length - i) (c - i)) (f := fp rb (.slice A R.l.length c)) (.inl rfl)) (fun _ h => .inl h))
      have P6 := Aside0.mk ((blk_set_ne 4 (.slice (if c = i then A else A.map fun x => x.add i) (R.l.length - i) (c - i)) HJG.out).trans P5.out)
      have HO6 := Aside0.mk ho6
      clear hr6 hn6 ho6 hlo6 c4 f4 H5 F5 P5 hlc hic hus
      generalize w5.setCell ⟨rb, 4, none⟩ (.slice (if c = i then A else A.map fun x => x.add i) (R.l.length - i) (c - i)) = w6 at H6 F6 P6 ⊢
      generalize (if c = i then A else A.map fun x => x.add i) = A6 at H6 HO6
      have HX := Aside0.mk (rheader_calls H6.out (by rw [doneR_jr]; exact (doneJ_ok HW.out i HKs.out).hw))
      rw [doneR_jr] at HX
      obtain ⟨hd, hhd⟩ : ∃ hd, hd = headJ (doneJ R.jr i) := ⟨_, rfl⟩
      rw [← hhd] at HX
      have HH := Aside0.mk hhd
      clear hhd
      unfold ptr at HX
      go_wp2_with fail
      refine HX.out.mono ?_
      rintro e w7 ⟨rfl, hB⟩
      have H7 := Aside0.mk (H6.out.below hB)
      have F7 := Aside0.mk (F6.out.trans (Fr.of_below hB (fp rb (.slice A R.l.length c))) (fun _ h => .inl h))
      have P7 := Aside0.mk ((hB.block _ (blk_lt P6.out)).trans P6.out)
      clear hB H6 F6 P6 HX
      have p0 := (blk_cell P7.out 0).trans (Eq.refl (some (Value.int .i64 0)))
      have p1 := (blk_cell P7.out 1).trans (Eq.refl (some (Value.string ⟨#[]⟩)))
      have f0 := blk_frozen P7.out 0
      have f1 := blk_frozen P7.out 1
      go_wp2_with fail
      have P8 : Aside0 (((w7.setCell ⟨g, 0, none⟩ (.int .i64 0)).setCell ⟨g, 1, none⟩ (.string hd)).heap[g]? = some (.cells #[.int .i64 0, .string hd] 45 (0, 0))) := ⟨(blk_set (blk_set P7.out 0 _) 1 _).trans rfl⟩
      have F8 : Aside0 (Fr w7 ((w7.setCell ⟨g, 0, none⟩ (.int .i64 0)).setCell ⟨g, 1, none⟩ (.string hd)) (· = g)) := ⟨(Fr.set w7 g 0 (.int .i64 0) (f := (· = g)) rfl).trans (Fr.set _ g 1 (.string hd) (f := (· = g)) rfl) (fun _ h => .inl h)⟩
      generalize (w7.setCell ⟨g, 0, none⟩ (.int .i64 0)).setCell ⟨g, 1, none⟩ (.string hd) = w8 at P8 F8 ⊢
      clear p0 p1 f0 f1
      have p0 := (blk_cell P8.out 0).trans (Eq.refl (some (Value.int .i64 0)))
      have p1 := (blk_cell P8.out 1).trans (Eq.refl (some (Value.string hd)))
      have HFp : Aside0 (∀ k, fp rb (.slice A6 (R.l.length - i) (c - i)) k → fp rb (.slice A R.l.length c) k) := ⟨fun k hk => by
        rcases hk with rfl | hk
        · exact .inl rfl
        · exact .inr (by rw [← HO6.out]; exact hk)⟩
      refine bodyPost_ret (v := .tuple #[.agg #[.int .i64 0, .string hd], .int .i64 0]) (by simp [results, Try.results15, go_sem, p0, p1, huw]) rfl ⟨_, by rw [HH.out], H7.out.fr F8.out (fun k hk e => ?_) (fun u hm k hk e => ?_), F7.out.trans F8.out (fun k hk => .inr (by rw [hk, HG.out]; exact Nat.le_refl _)), fun k hk => .inl (HFp.out k hk)⟩
      · have h1 := HJ.out k (HFp.out k hk)
        rw [e, HG.out] at h1
        exact Nat.lt_irrefl _ h1
      · have h1 := (HLo.out u (List.mem_of_mem_drop hm) k hk).1
        rw [e, HG.out] at h1
        exact Nat.lt_irrefl _ h1
end
end Go.Proofs.Ytlmnfnkjbgnklaa.Jrnl
end

section
/- The document's journal in memory: Append. -/
set_option linter.unusedVariables false
set_option linter.unusedSimpArgs false
namespace Go.Proofs.Ytlmnfnkjbgnklaa.Jrnl
open Go.RowKit Go.Proofs.YtlmnfnkjbgnklaaW.PrintWords Go.Proofs.YtlmnfnkjbgnklaaW.PrintLast Go.Proofs.YtlmnfnkjbgnklaaW.PrintMore Go.Proofs.Ytlmnfnkjbgnklaa.TxnS Go.Proofs.Ytlmnfnkjbgnklaa.Txn Go.Proofs.Ytlmnfnkjbgnklaa.JS Go.Proofs.Ytlmnfnkjbgnklaa.Run Go.Proofs.Ytlmnfnkjbgnklaa.Spec
def pushR (R : RJ) (l : List Ch) : RJ := { R with l := R.l ++ [l] }
theorem pushR_jr (R : RJ) (l : List Ch) : (pushR R l).jr = pushJ R.jr (l.length + 1) := by simp [pushR, pushJ, RJ.jr]
theorem infoWr : (Try.prog.info? 45).map (fun i => (i.zero, i.size, i.bytes)) = some (some (.agg #[.int .i64 0, .string ⟨#[]⟩]), 2, 24) := by kernel_rfl
theorem infoLl : (Try.prog.info? 31).map (fun i => (i.zero, i.size, i.bytes)) = some (some (.slice none 0 0), 1, 24) := by kernel_rfl
def RAPost (B rb : Nat) (v : Value) (us : List Value) (w : World) (r : List Ch × Int) (us' : List Value) (R' : RJ) (e : Ending) (w' : World) : Prop :=
  ∃ u v', e = .returned (.tuple #[u, .int .i64 r.2]) ∧ w'.ownsRow w.heap.size 45 2 u r.1.length (cv r.1) ∧ RIs B w' rb v' us' R' ∧ Fr w w' (fp rb v) ∧ (∀ k, fp rb v' k → fp rb v k ∨ w.heap.size ≤ k) ∧ ∀ k, u.ownBlock = some k → ¬ fp rb v' k
section
variable {B rb : Nat} {v : Value} {us : List Value} {R : RJ} {w : World}
set_option maxHeartbeats 3200000 in
set_option maxRecDepth 100000 in
theorem rappend_no1 (l : List Ch) (A : Option Addr) (c : Nat) (hc : Chs w A l) (hl : l.length ≤ 1125899906842624) (hr : ¬ right l) :
    Calls Try.prog 12 #[ptr rb, .slice A l.length c] w fun e w' => e = .returned (.tuple #[.slice none 0 0, .int .i64 70]) ∧ Below w.heap.size w w' := by
  have hup := Try.underlying27
  have HC := Aside0.mk (right_calls l A c w hc hl)
  rw [decide_eq_false hr] at HC
  clear hc hr
  unfold ptr
  go_enter Try.func12, Try.ntmps12
  go_wp2_with fail
  refine HC.out.mono ?_
  rintro e w1 ⟨rfl, hB⟩
  have HB := Aside0.mk hB
  clear hB
  go_wp2_with fail
  go_ret2
  exact ⟨rfl, by first | exact HB.out | exact below_drew1 HB.out⟩
set_option maxHeartbeats 3200000 in
set_option maxRecDepth 100000 in
theorem rappend_no2 (h : RIs B w rb v us R) (hw : JW R.jr) (l : List Ch) (A : Option Addr) (c : Nat) (hc : Chs w A l) (hr : right l) (hm : ¬ room R.jr l.length) :
    Calls Try.prog 12 #[ptr rb, .slice A l.length c] w fun e w' => e = .returned (.tuple #[.slice none 0 0, .int .i64 5]) ∧ Below w.heap.size w w' := by
  have hup := Try.underlying27
  have hl : l.length ≤ 48 := hr.2
  have HC := Aside0.mk (right_calls l A c w hc (by omega))
  rw [decide_eq_true hr] at HC
  have hl2 : R.l.length ≤ 255 := by have := hw.sml.2; rwa [R.len] at this
  have hff1 : 1 ≤ R.first := hw.f1
  have hffn : R.first + (R.jr.sizes.length : Int) ≤ 1099511628076 := hw.fn
  rw [R.len] at hffn
  have HF : Aside0 (∀ W, Below w.heap.size w W → Calls Try.prog 22 #[ptr rb] W fun e w' => e = .returned (.int .i64 (R.places - (R.jr.sizes.sum : Nat))) ∧ Below W.heap.size W w') := ⟨fun W hb => rfree_calls (h.below hb) hw⟩
  have HN : Aside0 (∀ W, Below w.heap.size w W → Calls Try.prog 24 #[ptr rb] W fun e w' => e = .returned (.int .i64 (R.first + (R.l.length : Int))) ∧ Below W.heap.size W w') := ⟨fun W hb => rnext_calls (h.below hb) (by omega) (by omega) (by omega)⟩
  obtain ⟨fr, hfr⟩ : ∃ fr, fr = R.places - (R.jr.sizes.sum : Nat) := ⟨_, rfl⟩
  obtain ⟨nx, hnx⟩ : ∃ nx, nx = R.first + (R.l.length : Int) := ⟨_, rfl⟩
  rw [← hfr] at HF
  rw [← hnx] at HN
  have w1 : IntKind.i64.wrap ((l.length : Int) + 1) = (l.length : Int) + 1 := IntWalk.i64_in _ (by omega)
  have hb : decide ((l.length : Int) + 1 > fr) = true ∨ (decide ((l.length : Int) + 1 > fr) = false ∧ decide (nx > 1099511627776) = true) := by
    unfold room at hm
    rw [R.len] at hm
    have e1 : R.jr.ring = R.places := rfl
    have e2 : R.jr.first = R.first := rfl
    rw [e1, e2] at hm
    simp
    omega
  clear hc hr h hw hm hfr hnx hff1 hffn
  unfold ptr at *
  go_enter Try.func12, Try.ntmps12
  go_wp2_with fail
  refine HC.out.mono ?_
  rintro e w1 ⟨rfl, hB⟩
  have B1 := Aside0.mk hB
  clear hB HC
  go_wp2_with fail
  refine (HF.out _ B1.out).mono ?_
  rintro e w2 ⟨rfl, hB⟩
  have B2 := Aside0.mk (B1.out.trans (hB.mono B1.out.size))
  clear hB
  rcases hb with b1 | ⟨b1, b2⟩
  · go_wp2_with fail
    go_ret2
    exact ⟨rfl, B2.out⟩
  · go_wp2_with fail
    refine (HN.out _ B2.out).mono ?_
    rintro e w3 ⟨rfl, hB⟩
    have B3 := Aside0.mk (B2.out.trans (hB.mono B2.out.size))
    clear hB
    go_wp2_with fail
    go_ret2
    exact ⟨rfl, B3.out⟩
set_option maxHeartbeats 6400000 in
set_option maxRecDepth 100000 in
theorem rappend_yes2 (h : RIs B w rb v us R) (hw : JW R.jr) (hB : B ≤ w.heap.size) (l : List Ch) (A : Option Addr) (c : Nat) (hc : Chs w A l) (hcl : ∀ k, rd (.slice A l.length c) k → k < w.heap.size ∧ ¬ fp rb v k) (hr : right l) (hm : room R.jr l.length) :
    Calls Try.prog 12 #[ptr rb, .slice A l.length c] w (fun e w' => RAPost B rb v us w (wsJ R.jr l, 0) (us ++ [.slice A l.length c]) (pushR R l) e w' ∧ RowX w' B 31 v us) := by
  have hu := Try.underlying56
  have hup := Try.underlying27
  have huw := Try.underlying45
  obtain ⟨Az, cz, rfl⟩ := h.slice
  have hl : l.length ≤ 48 := hr.2
  have HCk := Aside0.mk (right_calls l A c w hc (by omega))
  rw [decide_eq_true hr] at HCk
  have hl2 : R.l.length ≤ 255 := by have := hw.sml.2; rwa [R.len] at this
  have hff1 : 1 ≤ R.first := hw.f1
  have hffn : R.first + (R.jr.sizes.length : Int) ≤ 1099511628076 := hw.fn
  rw [R.len] at hffn
  have hm1 : (R.jr.sizes.sum : Int) + l.length + 1 ≤ R.places := hm.1
  have hm2 : R.first + (R.jr.sizes.length : Int) ≤ 1099511627776 := hm.2
  rw [R.len] at hm2
  have HF : Aside0 (∀ W, Below w.heap.size w W → Calls Try.prog 22 #[ptr rb] W fun e w' => e = .returned (.int .i64 (R.places - (R.jr.sizes.sum : Nat))) ∧ Below W.heap.size W w') := ⟨fun W hb => rfree_calls (h.below hb) hw⟩
  have HN : Aside0 (∀ W, Below w.heap.size w W → Calls Try.prog 24 #[ptr rb] W fun e w' => e = .returned (.int .i64 (R.first + (R.l.length : Int))) ∧ Below W.heap.size W w') := ⟨fun W hb => rnext_calls (h.below hb) (by omega) (by omega) (by omega)⟩
  have HE : Aside0 (∀ W, Below w.heap.size w W → Calls Try.prog 34 #[.int .i64 (R.first + (R.l.length : Int)), .slice A l.length c] W fun e w' => ∃ v, e = .returned (.tuple #[v, .int .i64 0]) ∧ w'.ownsRow W.heap.size 9 1 v (blocksL (R.first + (R.l.length : Int)) l).length (tv (blocksL (R.first + (R.l.length : Int)) l)) ∧ Below W.heap.size W w') := ⟨fun W hb => renc_yes (R.first + (R.l.length : Int)) l A c W (hc.below hb) (by omega) hm2 hr⟩
  obtain ⟨N, hN⟩ : ∃ N, N = l.length + 1 := ⟨_, rfl⟩
  have hbl : (blocksL (R.first + (R.l.length : Int)) l).length = N := by rw [hN]; simp [blocksL]
  rw [hbl] at HE
  obtain ⟨bl, hble⟩ : ∃ bl, bl = blocksL (R.first + (R.l.length : Int)) l := ⟨_, rfl⟩
  obtain ⟨sm, hsm⟩ : ∃ sm, sm = R.jr.sizes.sum := ⟨_, rfl⟩
  obtain ⟨fr, hfr⟩ : ∃ fr, fr = R.places - (sm : Int) := ⟨_, rfl⟩
  obtain ⟨nx, hnx⟩ : ∃ nx, nx = R.first + (R.l.length : Int) := ⟨_, rfl⟩
  rw [← hble] at HE hbl
  rw [← hsm, ← hfr] at HF
  rw [← hnx] at HN HE hble
  have HBL := Aside0.mk hbl
  have HBe := Aside0.mk hble
  have HNx := Aside0.mk hnx
  have HSm := Aside0.mk hsm
  rw [← hsm] at hm1
  have q1 : IntKind.i64.wrap ((l.length : Int) + 1) = (l.length : Int) + 1 := IntWalk.i64_in _ (by omega)
  have b1 : decide ((l.length : Int) + 1 > fr) = false := decide_eq_false (by omega)
  have b2 : decide (nx > 1099511627776) = false := decide_eq_false (by omega)
  have hsb : sm ≤ 255 := by rw [hsm]; exact hw.sml.1
  have ht0 : 0 ≤ R.tail := hw.t0
  have htr : R.tail < R.places := hw.tr
  have hr7 : 7 ≤ R.places := hw.r7
  have hr8 : R.places ≤ 255 := hw.r255
  have q2 : IntKind.i64.wrap (R.tail + R.places) = R.tail + R.places := IntWalk.i64_in _ (by omega)
  have q3 : IntKind.i64.wrap (R.tail + R.places - fr) = R.tail + R.places - fr := IntWalk.i64_in _ (by omega)
  obtain ⟨a, ha⟩ : ∃ a, a = R.tail + R.places - fr := ⟨_, rfl⟩
  have hae : a = R.tail + (sm : Int) := by omega
  rw [← ha] at q3
  have HA0 := Aside0.mk ha
  have HAe := Aside0.mk hae
  have ha0 : 0 ≤ a := by omega
  have ha1 : a ≤ 510 := by omega
  have q4 : IntKind.i64.wrap (R.tail + R.places - fr) = a := by rw [← ha]; exact q3
  have H := Aside0.mk h
  have HW := Aside0.mk hw
  have HBs := Aside0.mk hB
  have HNl := Aside0.mk hN
  have HM := Aside0.mk hm
  have HCh := Aside0.mk (And.intro hc hcl)
  have hNn : N ≤ 49 := by omega
  clear hc hcl hr h hm hfr hnx hw hB hN hbl hble hsm ha hae q3 hff1 hffn hm1 hm2
  unfold ptr at *
  go_enter Try.func12, Try.ntmps12
  go_wp2_with fail
  refine HCk.out.mono ?_
  rintro e w1 ⟨rfl, hB⟩
  have B1 := Aside0.mk hB
  clear hB HCk
  go_wp2_with fail
  refine (HF.out _ B1.out).mono ?_
  rintro e w2 ⟨rfl, hB⟩
  have B2 := Aside0.mk (B1.out.trans (hB.mono B1.out.size))
  clear hB
  go_wp2_with fail
  refine (HN.out _ B2.out).mono ?_
  rintro e w3 ⟨rfl, hB⟩
  have B3 := Aside0.mk (B2.out.trans (hB.mono B2.out.size))
  clear hB
  go_upto_region 5 with fail
  have HC : Aside0 (∀ W, Below w.heap.size w W → W.cell? ⟨rb, 0, none⟩ = some (.int .i64 R.places) ∧ W.cell? ⟨rb, 1, none⟩ = some (.int .i64 R.tail)) := ⟨fun W hb => ⟨(H.out.below hb).c0, (H.out.below hb).c1⟩⟩
  have B0 : Aside0 (Below w.heap.size w w3.drew) := ⟨below_drew1 B3.out⟩
  go_cut [6] (fun v6 wc => v6 = .int .i64 a ∧ Aside0 (Below w.heap.size w wc))
  case first =>
    go_region_held3 (fun w' => w'.cell? ⟨rb, 0, none⟩ = some (.int .i64 R.places) ∧ w'.cell? ⟨rb, 1, none⟩ = some (.int .i64 R.tail)) (first | exact HC.out _ B0.out | exact HC.out _ B4.out) (first
      | (go_at_call 22; refine (HF.out _ B0.out).mono ?_; rintro e w4 ⟨rfl, hB⟩; have B4 := Aside0.mk (B0.out.trans (hB.mono B0.out.size)); clear hB))
    all_goals
      go_wp2_with fail
      go_meet
      case rel => exact ⟨rfl, B4⟩
  case rest =>
    obtain ⟨rfl, B5⟩ := hcut
    clear B1 B2 B3 B0 HC HF q2 q4 b1 b2
    go_wp2_with fail
    refine (HN.out _ B5.out).mono ?_
    rintro e w6 ⟨rfl, hB⟩
    have B6 := Aside0.mk (B5.out.trans (hB.mono B5.out.size))
    clear hB
    go_wp2_with fail
    refine (HE.out _ B6.out).mono ?_
    rintro e w7 ⟨v7, rfl, hr, hB⟩
    obtain ⟨X, cx, rfl⟩ := own_slice hr
    have B7 := Aside0.mk (B6.out.trans (hB.mono B6.out.size))
    have X7 : Aside0 (Strs w7 X bl) := ⟨own_strs hr HBL.out.symm⟩
    clear hr hB B5 B6 HN HE
    obtain ⟨r, hr⟩ : ∃ r, r = R.places := ⟨_, rfl⟩
    have hws : Aside0 (wsJ R.jr l = wsA r a bl) := ⟨by unfold wsJ; rw [HAe.out, hr, HSm.out, HBe.out, HNx.out, R.len]; rfl⟩
    have c0 : Aside0 (∀ W, Below w7.heap.size w7 W → W.cell? ⟨rb, 0, none⟩ = some (.int .i64 r)) := ⟨fun W hb => by rw [hr]; exact (H.out.below (B7.out.trans (hb.mono B7.out.size))).c0⟩
    have hr0 : ¬ r = 0 := by omega
    have hr7' : 0 < r := by omega
    have hr8' : r ≤ 255 := by omega
    have HR := Aside0.mk hr
    clear hr hr7 hr8 ht0 htr hsb
    go_wp2_with fail
    go_loopw [6, 9, 47] (fun v6 v10 v50 wr => ∃ i : Nat, i ≤ N ∧ v50 = .int .i64 (i : Int) ∧ v6 = .int .i64 (a + (i : Int)) ∧ Aside0 (wr.ownsRow w7.heap.size 45 2 v10 i (cv ((wsA r a bl).take i))) ∧ Aside0 (Below w7.heap.size w7 wr)) (fun _ _ x _ => N - (intOf x).toNat)
    case atStart => exact ⟨0, by omega, rfl, by simp, ⟨own_nil _ _ _ _⟩, ⟨Below.refl _ _⟩⟩
    case round =>
      obtain ⟨i, hi, rfl, rfl, HRw, HBr⟩ := hrel
      by_cases hlt : i < N
      · obtain ⟨ad, rfl, cb⟩ := (X7.out.below HBr.out) i (by rw [HBL.out]; exact hlt)
        have hT := wsA_take r a bl i (by rw [HBL.out]; exact hlt)
        generalize bl[i]'(by rw [HBL.out]; exact hlt) = s at cb hT
        have HT := Aside0.mk hT
        have cr := c0.out _ HBr.out
        have hm := Int.emod_lt_of_pos (a + (i : Int)) hr7'
        have hm0 := Int.emod_nonneg (a + (i : Int)) hr0
        have q1 : IntKind.i64.wrap (a + (i : Int) + 1) = a + (i : Int) + 1 := IntWalk.i64_in _ (by omega)
        have q2 : IntKind.i64.wrap ((a + (i : Int)) % r + 1) = (a + (i : Int)) % r + 1 := IntWalk.i64_in _ (by omega)
        have q3 : 0 ≤ a + (i : Int) := by omega
        clear hT
        have hml : (i + 1) * 24 ≤ 140737488355328 := by omega
        go_wp2_with (at_builtin; refine print_append_cells w7.heap.size rfl (.tmp 51) (.tmp 61) 37 45 (.agg #[.int .i64 0, .string ⟨#[]⟩]) 2 24 rfl Try.underlying37 infoWr rfl (by decide) (by decide) _ _ _ [.int .i64 ((a + (i : Int)) % r + 1), .string s] rfl rfl rfl (by intro u hu; simp at hu; rcases hu with rfl | rfl <;> rfl) HRw.out HBr.out HBr.out.size hml ?_; intro v8 w8 hr8 hb8 _ _; have R8 := Aside0.mk hr8; have B8 := Aside0.mk hb8; clear hr8 hb8)
        go_roundw
        case rel => exact ⟨i + 1, by omega, by simp, by simp; omega, ⟨by rw [HT.out, cv_append]; exact R8.out⟩, B8⟩
        case measure => simp [intOf]; omega
      · obtain rfl : i = N := by omega
        have hR2 := HRw.out
        rw [List.take_of_length_le (by rw [wsA_length, HBL.out]; exact Nat.le_refl _), ← hws.out] at hR2
        obtain ⟨Y, cy, rfl⟩ := own_slice hR2
        have B9 := Aside0.mk (B7.out.trans (HBr.out.mono B7.out.size))
        have R9 := Aside0.mk (own_mono hR2 B7.out.size)
        have HRb : Aside0 (∀ k, (Value.slice Y i cy).ownBlock = some k → w7.heap.size ≤ k) := ⟨fun k hk => own_base hR2 k hk⟩
        have H9 := Aside0.mk (H.out.below B9.out)
        have HBw : Aside0 (B ≤ wr.heap.size) := ⟨Nat.le_trans HBs.out B9.out.size⟩
        clear hR2 HRw c0 ha0 ha1 hr0 hr7' hr8'
        have c4 := H9.out.c4
        have f4 := blk_frozen H9.out.blk 4
        have hus : Aside0 (us.length = R.l.length) := ⟨H.out.uok.1⟩
        go_upto_region 14 with fail
        have BA := Aside0.mk (below_alloc (Below.refl wr.heap.size wr) (.cells #[.slice A l.length c] 31))
        have HA9 := Aside0.mk (H9.out.below BA.out)
        have CA := Aside0.mk ((blk_cell (blk_new wr (.cells #[.slice A l.length c] 31)) 0).trans (Eq.refl (some (Value.slice A l.length c))))
        have SA : Aside0 ((wr.alloc (.cells #[.slice A l.length c] 31)).heap.size = wr.heap.size + 1) := ⟨by simp⟩
        have HK6 : Aside0 (∀ w6, (wr.alloc (.cells #[.slice A l.length c] 31)).grownBy w6 (Value.slice Az R.l.length cz).ownBlock → w6.heap[rb]? = some (.cells #[.int .i64 R.places, .int .i64 R.tail, .int .i64 R.first, .int .i64 R.sealed, .slice Az R.l.length cz] 56 (0, 0))) := ⟨fun w6 hg => (hg.block rb (blk_lt HA9.out.blk) (fun e => H.out.ne e.symm)).trans HA9.out.blk⟩
        go_wp2_with (at_builtin; refine wpList_push2 rfl B (.tmp 70) (.tmp 72) 54 31 (.slice none 0 0) 24 rfl Try.underlying54 infoLl rfl _ _ (.slice A l.length c) ⟨wr.heap.size, 0, none⟩ 1 rfl rfl CA.out rfl HA9.out.row (by rw [hus.out]; simp only [maxLen]; omega) (by rw [hus.out]; omega) (by rw [SA.out]; have := HBw.out; omega) ?_; intro A6 n6 w6 hr6 hg6 ho6 hk6; have KE6 := Aside0.mk hk6; have R6 := Aside0.mk hr6; have G6 := Aside0.mk hg6; have O6 := Aside0.mk ho6; have K6 := Aside0.mk (HK6.out w6 hg6); have f6 := blk_frozen K6.out 4; clear hr6 hg6 ho6 hk6; have c6 := (blk_cell K6.out 4).trans (Eq.refl (some (Value.slice Az R.l.length cz))))
        obtain ⟨v7, hv7⟩ : ∃ v7, v7 = Value.slice A6 (us.length + 1) n6 := ⟨_, rfl⟩
        rw [← hv7] at R6 O6 ⊢
        have ne7 : v7.ownBlock ≠ some rb := by
          rcases O6.out with e | e
          · intro h2; exact H.out.ne (Eq.trans (Eq.symm e) h2)
          · rw [e, SA.out]
            intro h2
            have h3 := blk_lt H9.out.blk
            have := Option.some.inj h2
            omega
        have hlt0 : ∀ k, fp rb (Value.slice Az R.l.length cz) k → k < w.heap.size := fun k hk => H.out.lt hk
        have hlo7 : ∀ u ∈ us ++ [.slice A l.length c], ∀ k, rd u k → k < w.heap.size ∧ ¬ fp rb (Value.slice Az R.l.length cz) k := fun u hm k hk => by
          rcases List.mem_append.1 hm with hm | hm
          · exact H.out.lo u hm k hk
          · have e : u = .slice A l.length c := by simpa using hm
            subst e
            exact HCh.out.2 k hk
        have hnf7 : ∀ k, k < w.heap.size → ¬ fp rb (Value.slice Az R.l.length cz) k → ¬ fp rb v7 k := fun k hk hn hf => by
          rcases hf with rfl | hf
          · exact hn (.inl rfl)
          · rcases O6.out with e | e
            · exact hn (.inr (Eq.trans (Eq.symm e) hf))
            · rw [e, SA.out] at hf
              have := Option.some.inj hf
              have := B9.out.size
              omega
        have F67 : Fr wr w6 (fp rb (Value.slice Az R.l.length cz)) := (Fr.of_below BA.out _).trans (Fr.of_grown G6.out (f := fp rb (Value.slice Az R.l.length cz)) (fun k hk => .inr hk)) (fun _ h => .inl h)
        have F7 : Fr wr (w6.setCell ⟨rb, 4, none⟩ v7) (fp rb (Value.slice Az R.l.length cz)) :=
          F67.trans (Fr.set w6 rb 4 v7 (f := fp rb (Value.slice Az R.l.length cz)) (.inl rfl)) (fun _ h => .inl h)
        have U6 : UsOk w6 (us ++ [.slice A l.length c]) (R.l ++ [l]) := by
          have h1 : UsOk w (us ++ [.slice A l.length c]) (R.l ++ [l]) := H.out.uok.push HCh.out.1
          refine h1.step fun u hm k hk => ?_
          obtain ⟨h2, h3⟩ := hlo7 u hm k hk
          exact (F67.block k (Nat.lt_of_lt_of_le h2 B9.out.size) h3).trans (B9.out.block k h2)
        have hsz : w.heap.size ≤ w6.heap.size := Nat.le_trans B9.out.size F67.size
        have J7 : RIs B (w6.setCell ⟨rb, 4, none⟩ v7) rb v7 (us ++ [.slice A l.length c]) (pushR R l) := by
          have hs : (w6.setCell ⟨rb, 4, none⟩ v7).heap.size = w6.heap.size := by simp [World.setCell]
          refine ⟨blk_set K6.out 4 _, R6.out.step fun k hk => blk_set_ne 4 _ (fun e => ne7 (e ▸ hk)), U6.step fun u hm k hk => blk_set_ne 4 _ (fun e => (hlo7 u hm k hk).2 (.inl e.symm)), H.out.bd, ne7, fun u hm k hk => ?_⟩
          obtain ⟨h2, h3⟩ := hlo7 u hm k hk
          exact ⟨by rw [hs]; omega, hnf7 k h2 h3⟩
        have R7 : (w6.setCell ⟨rb, 4, none⟩ v7).ownsRow w.heap.size 45 2 (Value.slice Y i cy) (wsJ R.jr l).length (cv (wsJ R.jr l)) := by
          have e : (wsJ R.jr l).length = i := by rw [hws.out, wsA_length, HBL.out]
          rw [e]
          refine own_step R9.out fun k hk => F7.block k (own_lt R9.out k hk) (fun hf => ?_)
          have h1 := hlt0 k hf
          have h2 := HRb.out k hk
          have h3 := B7.out.size
          omega
        refine bodyPost_ret (v := .tuple #[.slice Y i cy, .int .i64 0]) (by simp [results, Try.results12, go_sem]) rfl ⟨⟨_, _, rfl, R7, J7, (Fr.of_below B9.out _).trans F7 (fun _ h => .inl h), fun k hk => ?_, fun k hk hf => ?_⟩, KE6.out.step fun k hk => blk_set_ne 4 _ (fun e => H.out.ne (e ▸ hk))⟩
        · rcases hk with rfl | hk
          · exact .inl (.inl rfl)
          · rcases O6.out with e | e
            · exact .inl (.inr (Eq.trans (Eq.symm e) hk))
            · rw [e, SA.out] at hk
              have := Option.some.inj hk
              have := B9.out.size
              exact .inr (by omega)
        · have h1 := own_lt R9.out k hk
          have h2 := HRb.out k hk
          have h3 := B7.out.size
          rcases hf with rfl | hf
          · have := hlt0 k (.inl rfl)
            omega
          · rcases O6.out with e | e
            · have := hlt0 k (.inr (Eq.trans (Eq.symm e) hf))
              omega
            · rw [e, SA.out] at hf
              have := Option.some.inj hf
              omega
theorem rappend_yes (h : RIs B w rb v us R) (hw : JW R.jr) (hB : B ≤ w.heap.size) (l : List Ch) (A : Option Addr) (c : Nat) (hc : Chs w A l) (hcl : ∀ k, rd (.slice A l.length c) k → k < w.heap.size ∧ ¬ fp rb v k) (hr : right l) (hm : room R.jr l.length) :
    Calls Try.prog 12 #[ptr rb, .slice A l.length c] w (RAPost B rb v us w (wsJ R.jr l, 0) (us ++ [.slice A l.length c]) (pushR R l)) := by
  refine (rappend_yes2 h hw hB l A c hc hcl hr hm).mono ?_
  rintro e w' ⟨h, _⟩
  exact h
end
end Go.Proofs.Ytlmnfnkjbgnklaa.Jrnl
end
