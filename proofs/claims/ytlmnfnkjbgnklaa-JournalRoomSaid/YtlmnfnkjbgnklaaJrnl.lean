/- A journal in memory: New, used, Free, Count, Next. -/
import Derived.Test.YtlmnfnkjbgnklaaJrnlSpec
import Derived.Test.YtlmnfnkjbgnklaaRun
import Derived.Test.YtlmnfnkjbgnklaaTxnDec
set_option linter.unusedVariables false
set_option linter.unusedSimpArgs false
namespace Go.Proofs.Ytlmnfnkjbgnklaa.Jrnl
open Go.RowKit Go.Proofs.YtlmnfnkjbgnklaaW.PrintWords Go.Proofs.YtlmnfnkjbgnklaaW.PrintLast Go.Proofs.YtlmnfnkjbgnklaaW.PrintMore Go.Proofs.Ytlmnfnkjbgnklaa.TxnS Go.Proofs.Ytlmnfnkjbgnklaa.Txn Go.Proofs.Ytlmnfnkjbgnklaa.JS Go.Proofs.Ytlmnfnkjbgnklaa.Run
def ptr (b : Nat) : Value := .pointer (some ⟨b, 0, none⟩)
structure JIs (B : Nat) (w : World) (jb : Nat) (v : Value) (J : Jr) : Prop where
  blk : w.heap[jb]? = some (.cells #[.int .i64 J.ring, .int .i64 J.tail, .int .i64 J.first, .int .i64 J.sealed, v] 72 (0, 0))
  row : RowX w B 3 v (sv J.sizes)
  bd : B ≤ jb
  ne : v.ownBlock ≠ some jb
def fp (jb : Nat) (v : Value) (k : Nat) : Prop := k = jb ∨ v.ownBlock = some k
section
variable {B jb : Nat} {v : Value} {J : Jr} {w w' : World}
theorem JIs.step (h : JIs B w jb v J) (hb : ∀ k, fp jb v k → w'.heap[k]? = w.heap[k]?) : JIs B w' jb v J := ⟨(hb jb (.inl rfl)).trans h.blk, h.row.step fun k hk => hb k (.inr hk), h.bd, h.ne⟩
theorem JIs.lt (h : JIs B w jb v J) {k : Nat} (hk : fp jb v k) : k < w.heap.size := by
  rcases hk with rfl | hk
  · exact blk_lt h.blk
  · exact h.row.lt k hk
theorem JIs.ge (h : JIs B w jb v J) {k : Nat} (hk : fp jb v k) : B ≤ k := by
  rcases hk with rfl | hk
  · exact h.bd
  · exact h.row.ge k hk
theorem JIs.below (h : JIs B w jb v J) (hb : Below w.heap.size w w') : JIs B w' jb v J := h.step fun k hk => hb.block k (h.lt hk)
theorem JIs.c0 (h : JIs B w jb v J) : w.cell? ⟨jb, 0, none⟩ = some (.int .i64 J.ring) := (blk_cell h.blk 0).trans rfl
theorem JIs.c1 (h : JIs B w jb v J) : w.cell? ⟨jb, 1, none⟩ = some (.int .i64 J.tail) := (blk_cell h.blk 1).trans rfl
theorem JIs.c2 (h : JIs B w jb v J) : w.cell? ⟨jb, 2, none⟩ = some (.int .i64 J.first) := (blk_cell h.blk 2).trans rfl
theorem JIs.c3 (h : JIs B w jb v J) : w.cell? ⟨jb, 3, none⟩ = some (.int .i64 J.sealed) := (blk_cell h.blk 3).trans rfl
theorem JIs.c4 (h : JIs B w jb v J) : w.cell? ⟨jb, 4, none⟩ = some v := (blk_cell h.blk 4).trans rfl
theorem JIs.slice (h : JIs B w jb v J) : ∃ A c, v = .slice A J.sizes.length c := by
  have := h.row.slice
  rwa [sv_length] at this
end
set_option maxHeartbeats 3200000 in
set_option maxRecDepth 100000 in
theorem new_no (n : Int) (w : World) (h : n < 8 ∨ 256 < n) : Calls Try.prog 8 #[.int .i64 n] w fun e w' => e = .returned (.tuple #[.pointer none, .int .i64 1]) ∧ Below w.heap.size w w' := by
  by_cases h1 : n < 8
  · have b1 : decide (n < 8) = true := decide_eq_true h1
    go_enter Try.func8, Try.ntmps8
    go_wp2_with fail
    go_ret2
    exact ⟨rfl, Below.refl _ _⟩
  · have b1 : decide (n < 8) = false := decide_eq_false h1
    have b2 : decide (n > 256) = true := decide_eq_true (by omega)
    go_enter Try.func8, Try.ntmps8
    go_wp2_with fail
    go_ret2
    exact ⟨rfl, Below.refl _ _⟩
set_option maxHeartbeats 3200000 in
set_option maxRecDepth 100000 in
theorem new_yes (n : Int) (w : World) (h1 : 8 ≤ n) (h2 : n ≤ 256) : Calls Try.prog 8 #[.int .i64 n] w fun e w' => ∃ jb, e = .returned (.tuple #[ptr jb, .int .i64 0]) ∧ JIs w.heap.size w' jb (.slice none 0 0) (newJ n) ∧ Below w.heap.size w w' := by
  have hu := Try.underlying72
  have b1 : decide (n < 8) = false := decide_eq_false (by omega)
  have b2 : decide (n > 256) = false := decide_eq_false (by omega)
  have w1 : IntKind.i64.wrap (n - 1) = n - 1 := IntWalk.i64_in _ (by omega)
  unfold ptr
  go_enter Try.func8, Try.ntmps8
  go_wp2_with fail
  have hJ : JIs w.heap.size (w.alloc (.cells #[.int .i64 (n - 1), .int .i64 0, .int .i64 1, .int .i64 0, .slice none 0 0] 72)) w.heap.size (.slice none 0 0) (newJ n) := ⟨heap_alloc_new w _, .inl ⟨rfl, rfl⟩, Nat.le_refl _, by simp [Value.ownBlock]⟩
  have hB := below_alloc (Below.refl w.heap.size w) (.cells #[.int .i64 (n - 1), .int .i64 0, .int .i64 1, .int .i64 0, .slice none 0 0] 72)
  have HJ := Aside0.mk hJ
  have HB := Aside0.mk hB
  clear hJ hB
  go_ret2
  exact ⟨_, rfl, HJ.out, HB.out⟩
section
variable {B jb : Nat} {v : Value} {J : Jr} {w : World}
set_option maxHeartbeats 3200000 in
set_option maxRecDepth 100000 in
theorem used_calls (h : JIs B w jb v J) (k : Nat) (hk : k ≤ J.sizes.length) (hs : J.sizes.sum ≤ 1000) (hl : J.sizes.length ≤ 1000) : Calls Try.prog 32 #[ptr jb, .int .i64 (k : Int)] w fun e w' => e = .returned (.int .i64 ((J.sizes.take k).sum : Nat)) ∧ Below w.heap.size w w' := by
  have hu := Try.underlying72
  have hup := Try.underlying23
  obtain ⟨A, c, rfl⟩ := h.slice
  have H := Aside0.mk h
  have HS := Aside0.mk hs
  have c4 := h.c4
  have hkc : k ≤ c := by
    rcases h.row with ⟨h1, h2⟩ | ⟨g, off, cap, C, h1, _, _, h3, _⟩
    · simp only [Value.slice.injEq] at h1; omega
    · simp only [Value.slice.injEq] at h1
      have := h1.2.2
      rw [sv_length] at h3
      omega
  clear h hs
  unfold ptr
  go_enter Try.func32, Try.ntmps32
  go_wp2_with fail
  go_loopw [5, 15] (fun v5 v15 wr => ∃ i : Nat, i ≤ k ∧ v15 = .int .i64 (i : Int) ∧ v5 = .int .i64 ((J.sizes.take i).sum : Nat) ∧ Aside0 (Below w.heap.size w wr)) (fun _ x _ => k - (intOf x).toNat)
  case atStart => exact ⟨0, by omega, rfl, rfl, ⟨Below.refl _ _⟩⟩
  case round =>
    clear c4
    obtain ⟨i, hi, rfl, rfl, HB⟩ := hrel
    by_cases hlt : i < k
    · obtain ⟨g, off, cap, e1, e2⟩ := (H.out.row.below HB.out).cell (i := i) (by rw [sv_length]; omega)
      simp only [Value.slice.injEq] at e1
      obtain ⟨rfl, -, rfl⟩ := e1
      have hT := sum_take_succ J.sizes i (by omega)
      have hle := sum_take_le J.sizes (i + 1)
      have hss := HS.out
      rw [sv_get] at e2
      generalize J.sizes[i]'(by omega) = x at e2 hT
      generalize (J.sizes.take i).sum = y at hT ⊢
      have w1 : IntKind.i64.wrap ((y : Int) + (x : Int)) = (y : Int) + (x : Int) := IntWalk.i64_in _ (by omega)
      have HT := Aside0.mk hT
      clear hT hle hss
      go_wp2_with fail
      go_roundw
      case rel => exact ⟨i + 1, by omega, by simp, by rw [HT.out]; simp, HB⟩
      case measure => simp [intOf]; omega
    · obtain rfl : i = k := by omega
      go_wp2_with fail
      go_ret
      exact ⟨rfl, by first | exact HB.out | exact below_drew1 HB.out⟩
theorem used_all (h : JIs B w jb v J) (hs : J.sizes.sum ≤ 1000) (hl : J.sizes.length ≤ 1000) : Calls Try.prog 32 #[ptr jb, .int .i64 (J.sizes.length : Int)] w fun e w' => e = .returned (.int .i64 (J.sizes.sum : Nat)) ∧ Below w.heap.size w w' := by
  have := used_calls h J.sizes.length (Nat.le_refl _) hs hl
  rwa [List.take_length] at this
theorem _root_.Go.Proofs.Ytlmnfnkjbgnklaa.JS.JW.sml (h : JW J) : J.sizes.sum ≤ 255 ∧ J.sizes.length ≤ 255 := by
  have := h.su; have := h.r255
  have := len_le_sum _ h.pos
  omega
set_option maxHeartbeats 3200000 in
set_option maxRecDepth 100000 in
theorem free_calls (h : JIs B w jb v J) (hw : JW J) : Calls Try.prog 21 #[ptr jb] w fun e w' => e = .returned (.int .i64 (J.ring - (J.sizes.sum : Nat))) ∧ Below w.heap.size w w' := by
  have hu := Try.underlying72
  have hup := Try.underlying23
  obtain ⟨A, c, rfl⟩ := h.slice
  have HU : Aside0 (∀ W, Below w.heap.size w W → Calls Try.prog 32 #[ptr jb, .int .i64 (J.sizes.length : Int)] W fun e w' => e = .returned (.int .i64 (J.sizes.sum : Nat)) ∧ Below W.heap.size W w') := ⟨fun W hb => used_all (h.below hb) (by have := hw.sml; omega) (by have := hw.sml; omega)⟩
  have c0 := h.c0
  have c4 := h.c4
  have hsml := hw.sml
  have := hw.su
  have := hw.r255
  have := hw.r7
  have w1 : IntKind.i64.wrap (J.ring - (J.sizes.sum : Nat)) = J.ring - (J.sizes.sum : Nat) := IntWalk.i64_in _ (by omega)
  have HC : Aside0 (∀ W, Below w.heap.size w W → W.cell? ⟨jb, 0, none⟩ = some (.int .i64 J.ring) ∧ W.cell? ⟨jb, 4, none⟩ = some (.slice A J.sizes.length c)) := ⟨fun W hb => ⟨(h.below hb).c0, (h.below hb).c4⟩⟩
  generalize J.sizes.sum = sm at *
  clear h hw
  unfold ptr at *
  go_enter Try.func21, Try.ntmps21
  go_wp2_with fail
  have B0 : Aside0 (Below w.heap.size w w.drew) := ⟨below_drew1 (Below.refl _ _)⟩
  go_region_held3 (fun w' => w'.cell? ⟨jb, 0, none⟩ = some (.int .i64 J.ring) ∧ w'.cell? ⟨jb, 4, none⟩ = some (.slice A J.sizes.length c)) (first | exact HC.out _ B0.out | exact HC.out _ B1.out) (first
    | (go_at_call 32; refine (HU.out _ B0.out).mono ?_; rintro e w1 ⟨rfl, hB⟩; have B1 := Aside0.mk (B0.out.trans (hB.mono B0.out.size)); clear hB))
  all_goals go_wp2_with fail
  all_goals go_ret
  all_goals exact ⟨rfl, B1.out⟩
set_option maxHeartbeats 3200000 in
set_option maxRecDepth 100000 in
theorem count_calls (h : JIs B w jb v J) : Calls Try.prog 18 #[ptr jb] w fun e w' => e = .returned (.tuple #[.int .i64 (J.sizes.length : Int), .int .i64 J.sealed]) ∧ Below w.heap.size w w' := by
  have hu := Try.underlying72
  have hup := Try.underlying23
  obtain ⟨A, c, rfl⟩ := h.slice
  have c3 := h.c3
  have c4 := h.c4
  clear h
  unfold ptr
  go_enter Try.func18, Try.ntmps18
  go_wp2_with fail
  go_big_quiet (fail)
  all_goals go_wp2_with fail
  all_goals go_ret2
  all_goals exact ⟨rfl, below_n (Below.refl _ _) _⟩
set_option maxHeartbeats 3200000 in
set_option maxRecDepth 100000 in
theorem next_calls (h : JIs B w jb v J) (h1 : 0 ≤ J.first) (h2 : J.first ≤ 1152921504606846976) (hl : J.sizes.length ≤ 1000) : Calls Try.prog 23 #[ptr jb] w fun e w' => e = .returned (.int .i64 (J.first + (J.sizes.length : Int))) ∧ Below w.heap.size w w' := by
  have hu := Try.underlying72
  have hup := Try.underlying23
  obtain ⟨A, c, rfl⟩ := h.slice
  have c2 := h.c2
  have c4 := h.c4
  have w1 : IntKind.i64.wrap (J.first + (J.sizes.length : Int)) = J.first + (J.sizes.length : Int) := IntWalk.i64_in _ (by omega)
  clear h
  unfold ptr
  go_enter Try.func23, Try.ntmps23
  go_wp2_with fail
  go_big_quiet (fail)
  all_goals go_wp2_with fail
  all_goals go_ret
  all_goals exact ⟨rfl, below_n (Below.refl _ _) _⟩
end
end Go.Proofs.Ytlmnfnkjbgnklaa.Jrnl
