/- A journal in memory: New, used, Free, Count, Next. A journal in memory: Header. A journal in memory: Seal, Done. A journal in memory: Append. -/
import Derived.Test.YtlmnfnkjbgnklaaJrnlSpec
import Derived.Test.YtlmnfnkjbgnklaaRun
import Derived.Test.YtlmnfnkjbgnklaaTxnBk
import Derived.Deep.RegionLawGrows
import Derived.Deep.RegionHeld3
section
/- A journal in memory: New, used, Free, Count, Next. -/
set_option linter.unusedVariables false
set_option linter.unusedSimpArgs false
namespace Go.Proofs.Ytlmnfnkjbgnklaa.Jrnl
open Go.RowKit Go.Proofs.YtlmnfnkjbgnklaaW.PrintWords Go.Proofs.YtlmnfnkjbgnklaaW.PrintLast Go.Proofs.YtlmnfnkjbgnklaaW.PrintMore Go.Proofs.Ytlmnfnkjbgnklaa.TxnS Go.Proofs.Ytlmnfnkjbgnklaa.Txn Go.Proofs.Ytlmnfnkjbgnklaa.JS Go.Proofs.Ytlmnfnkjbgnklaa.Run
def ptr (b : Nat) : Value := .pointer (some ⟨b, 0, none⟩)
structure JIs (B : Nat) (w : World) (jb : Nat) (v : Value) (J : Jr) : Prop where
  blk : w.heap[jb]? = some (.cells #[.int .i64 J.ring, .int .i64 J.tail, .int .i64 J.first, .int .i64 J.sealed, v] 72 (0, 0))
  row : RowX w B 3 v (sv J.sizes)
  bd : B ≤ jb
  ne : v.ownBlock ≠ some jb
def fp (jb : Nat) (v : Value) (k : Nat) : Prop := k = jb ∨ v.ownBlock = some k
section
variable {B jb : Nat} {v : Value} {J : Jr} {w w' : World}
theorem JIs.step (h : JIs B w jb v J) (hb : ∀ k, fp jb v k → w'.heap[k]? = w.heap[k]?) : JIs B w' jb v J := ⟨(hb jb (.inl rfl)).trans h.blk, h.row.step fun k hk => hb k (.inr hk), h.bd, h.ne⟩
theorem JIs.lt (h : JIs B w jb v J) {k : Nat} (hk : fp jb v k) : k < w.heap.size := by
  rcases hk with rfl | hk
  · exact blk_lt h.blk
  · exact h.row.lt k hk
theorem JIs.ge (h : JIs B w jb v J) {k : Nat} (hk : fp jb v k) : B ≤ k := by
  rcases hk with rfl | hk
  · exact h.bd
  · exact h.row.ge k hk
theorem JIs.below (h : JIs B w jb v J) (hb : Below w.heap.size w w') : JIs B w' jb v J := h.step fun k hk => hb.block k (h.lt hk)
theorem JIs.c0 (h : JIs B w jb v J) : w.cell? ⟨jb, 0, none⟩ = some (.int .i64 J.ring) := (blk_cell h.blk 0).trans rfl
theorem JIs.c1 (h : JIs B w jb v J) : w.cell? ⟨jb, 1, none⟩ = some (.int .i64 J.tail) := (blk_cell h.blk 1).trans rfl
theorem JIs.c2 (h : JIs B w jb v J) : w.cell? ⟨jb, 2, none⟩ = some (.int .i64 J.first) := (blk_cell h.blk 2).trans rfl
theorem JIs.c3 (h : JIs B w jb v J) : w.cell? ⟨jb, 3, none⟩ = some (.int .i64 J.sealed) := (blk_cell h.blk 3).trans rfl
theorem JIs.c4 (h : JIs B w jb v J) : w.cell? ⟨jb, 4, none⟩ = some v := (blk_cell h.blk 4).trans rfl
theorem JIs.slice (h : JIs B w jb v J) : ∃ A c, v = .slice A J.sizes.length c := by
  have := h.row.slice
  rwa [sv_length] at this
end
set_option maxHeartbeats 3200000 in
set_option maxRecDepth 100000 in
theorem new_no (n : Int) (w : World) (h : n < 8 ∨ 256 < n) : Calls Try.prog 8 #[.int .i64 n] w fun e w' => e = .returned (.tuple #[.pointer none, .int .i64 1]) ∧ Below w.heap.size w w' := by
  by_cases h1 : n < 8
  · have b1 : decide (n < 8) = true := decide_eq_true h1
    go_enter Try.func8, Try.ntmps8
    go_wp2_with fail
    go_ret2
    exact ⟨rfl, Below.refl _ _⟩
  · have b1 : decide (n < 8) = false := decide_eq_false h1
    have b2 : decide (n > 256) = true := decide_eq_true (by omega)
    go_enter Try.func8, Try.ntmps8
    go_wp2_with fail
    go_ret2
    exact ⟨rfl, Below.refl _ _⟩
set_option maxHeartbeats 3200000 in
set_option maxRecDepth 100000 in
theorem new_yes (n : Int) (w : World) (h1 : 8 ≤ n) (h2 : n ≤ 256) : Calls Try.prog 8 #[.int .i64 n] w fun e w' => ∃ jb, e = .returned (.tuple #[ptr jb, .int .i64 0]) ∧ JIs w.heap.size w' jb (.slice none 0 0) (newJ n) ∧ Below w.heap.size w w' := by
  have hu := Try.underlying72
  have b1 : decide (n < 8) = false := decide_eq_false (by omega)
  have b2 : decide (n > 256) = false := decide_eq_false (by omega)
  have w1 : IntKind.i64.wrap (n - 1) = n - 1 := IntWalk.i64_in _ (by omega)
  unfold ptr
  go_enter Try.func8, Try.ntmps8
  go_wp2_with fail
  have hJ : JIs w.heap.size (w.alloc (.cells #[.int .i64 (n - 1), .int .i64 0, .int .i64 1, .int .i64 0, .slice none 0 0] 72)) w.heap.size (.slice none 0 0) (newJ n) := ⟨heap_alloc_new w _, .inl ⟨rfl, rfl⟩, Nat.le_refl _, by simp [Value.ownBlock]⟩
  have hB := below_alloc (Below.refl w.heap.size w) (.cells #[.int .i64 (n - 1), .int .i64 0, .int .i64 1, .int .i64 0, .slice none 0 0] 72)
  have HJ := Aside0.mk hJ
  have HB := Aside0.mk hB
  clear hJ hB
  go_ret2
  exact ⟨_, rfl, HJ.out, HB.out⟩
section
variable {B jb : Nat} {v : Value} {J : Jr} {w : World}
set_option maxHeartbeats 3200000 in
set_option maxRecDepth 100000 in
theorem used_calls (h : JIs B w jb v J) (k : Nat) (hk : k ≤ J.sizes.length) (hs : J.sizes.sum ≤ 1000) (hl : J.sizes.length ≤ 1000) : Calls Try.prog 32 #[ptr jb, .int .i64 (k : Int)] w fun e w' => e = .returned (.int .i64 ((J.sizes.take k).sum : Nat)) ∧ Below w.heap.size w w' := by
  have hu := Try.underlying72
  have hup := Try.underlying23
  obtain ⟨A, c, rfl⟩ := h.slice
  have H := Aside0.mk h
  have HS := Aside0.mk hs
  have c4 := h.c4
  have hkc : k ≤ c := by
    rcases h.row with ⟨h1, h2⟩ | ⟨g, off, cap, C, h1, _, _, h3, _⟩
    · simp only [Value.slice.injEq] at h1; omega
    · simp only [Value.slice.injEq] at h1
      have := h1.2.2
      rw [sv_length] at h3
      omega
  clear h hs
  unfold ptr
  go_enter Try.func32, Try.ntmps32
  go_wp2_with fail
  go_loopw [5, 15] (fun v5 v15 wr => ∃ i : Nat, i ≤ k ∧ v15 = .int .i64 (i : Int) ∧ v5 = .int .i64 ((J.sizes.take i).sum : Nat) ∧ Aside0 (Below w.heap.size w wr)) (fun _ x _ => k - (intOf x).toNat)
  case atStart => exact ⟨0, by omega, rfl, rfl, ⟨Below.refl _ _⟩⟩
  case round =>
    clear c4
    obtain ⟨i, hi, rfl, rfl, HB⟩ := hrel
    by_cases hlt : i < k
    · obtain ⟨g, off, cap, e1, e2⟩ := (H.out.row.below HB.out).cell (i := i) (by rw [sv_length]; omega)
      simp only [Value.slice.injEq] at e1
      obtain ⟨rfl, -, rfl⟩ := e1
      have hT := sum_take_succ J.sizes i (by omega)
      have hle := sum_take_le J.sizes (i + 1)
      have hss := HS.out
      rw [sv_get] at e2
      generalize J.sizes[i]'(by omega) = x at e2 hT
      generalize (J.sizes.take i).sum = y at hT ⊢
      have w1 : IntKind.i64.wrap ((y : Int) + (x : Int)) = (y : Int) + (x : Int) := IntWalk.i64_in _ (by omega)
      have HT := Aside0.mk hT
      clear hT hle hss
      go_wp2_with fail
      go_roundw
      case rel => exact ⟨i + 1, by omega, by simp, by rw [HT.out]; simp, HB⟩
      case measure => simp [intOf]; omega
    · obtain rfl : i = k := by omega
      go_wp2_with fail
      go_ret
      exact ⟨rfl, by first | exact HB.out | exact below_drew1 HB.out⟩
theorem used_all (h : JIs B w jb v J) (hs : J.sizes.sum ≤ 1000) (hl : J.sizes.length ≤ 1000) : Calls Try.prog 32 #[ptr jb, .int .i64 (J.sizes.length : Int)] w fun e w' => e = .returned (.int .i64 (J.sizes.sum : Nat)) ∧ Below w.heap.size w w' := by
  have := used_calls h J.sizes.length (Nat.le_refl _) hs hl
  rwa [List.take_length] at this
theorem _root_.Go.Proofs.Ytlmnfnkjbgnklaa.JS.JW.sml (h : JW J) : J.sizes.sum ≤ 255 ∧ J.sizes.length ≤ 255 := by
  have := h.su; have := h.r255
  have := len_le_sum _ h.pos
  omega
set_option maxHeartbeats 3200000 in
set_option maxRecDepth 100000 in
theorem free_calls (h : JIs B w jb v J) (hw : JW J) : Calls Try.prog 21 #[ptr jb] w fun e w' => e = .returned (.int .i64 (J.ring - (J.sizes.sum : Nat))) ∧ Below w.heap.size w w' := by
  have hu := Try.underlying72
  have hup := Try.underlying23
  obtain ⟨A, c, rfl⟩ := h.slice
  have HU : Aside0 (∀ W, Below w.heap.size w W → Calls Try.prog 32 #[ptr jb, .int .i64 (J.sizes.length : Int)] W fun e w' => e = .returned (.int .i64 (J.sizes.sum : Nat)) ∧ Below W.heap.size W w') := ⟨fun W hb => used_all (h.below hb) (by have := hw.sml; omega) (by have := hw.sml; omega)⟩
  have c0 := h.c0
  have c4 := h.c4
  have hsml := hw.sml
  have := hw.su
  have := hw.r255
  have := hw.r7
  have w1 : IntKind.i64.wrap (J.ring - (J.sizes.sum : Nat)) = J.ring - (J.sizes.sum : Nat) := IntWalk.i64_in _ (by omega)
  have HC : Aside0 (∀ W, Below w.heap.size w W → W.cell? ⟨jb, 0, none⟩ = some (.int .i64 J.ring) ∧ W.cell? ⟨jb, 4, none⟩ = some (.slice A J.sizes.length c)) := ⟨fun W hb => ⟨(h.below hb).c0, (h.below hb).c4⟩⟩
  generalize J.sizes.sum = sm at *
  clear h hw
  unfold ptr at *
  go_enter Try.func21, Try.ntmps21
  go_wp2_with fail
  have B0 : Aside0 (Below w.heap.size w w.drew) := ⟨below_drew1 (Below.refl _ _)⟩
  go_region_held3 (fun w' => w'.cell? ⟨jb, 0, none⟩ = some (.int .i64 J.ring) ∧ w'.cell? ⟨jb, 4, none⟩ = some (.slice A J.sizes.length c)) (first | exact HC.out _ B0.out | exact HC.out _ B1.out) (first
    | (go_at_call 32; refine (HU.out _ B0.out).mono ?_; rintro e w1 ⟨rfl, hB⟩; have B1 := Aside0.mk (B0.out.trans (hB.mono B0.out.size)); clear hB))
  all_goals go_wp2_with fail
  all_goals go_ret
  all_goals exact ⟨rfl, B1.out⟩
set_option maxHeartbeats 3200000 in
set_option maxRecDepth 100000 in
theorem count_calls (h : JIs B w jb v J) : Calls Try.prog 18 #[ptr jb] w fun e w' => e = .returned (.tuple #[.int .i64 (J.sizes.length : Int), .int .i64 J.sealed]) ∧ Below w.heap.size w w' := by
  have hu := Try.underlying72
  have hup := Try.underlying23
  obtain ⟨A, c, rfl⟩ := h.slice
  have c3 := h.c3
  have c4 := h.c4
  clear h
  unfold ptr
  go_enter Try.func18, Try.ntmps18
  go_wp2_with fail
  go_big_quiet (fail)
  all_goals go_wp2_with fail
  all_goals go_ret2
  all_goals exact ⟨rfl, below_n (Below.refl _ _) _⟩
set_option maxHeartbeats 3200000 in
set_option maxRecDepth 100000 in
theorem next_calls (h : JIs B w jb v J) (h1 : 0 ≤ J.first) (h2 : J.first ≤ 1152921504606846976) (hl : J.sizes.length ≤ 1000) : Calls Try.prog 23 #[ptr jb] w fun e w' => e = .returned (.int .i64 (J.first + (J.sizes.length : Int))) ∧ Below w.heap.size w w' := by
  have hu := Try.underlying72
  have hup := Try.underlying23
  obtain ⟨A, c, rfl⟩ := h.slice
  have c2 := h.c2
  have c4 := h.c4
  have w1 : IntKind.i64.wrap (J.first + (J.sizes.length : Int)) = J.first + (J.sizes.length : Int) := IntWalk.i64_in _ (by omega)
  clear h
  unfold ptr
  go_enter Try.func23, Try.ntmps23
  go_wp2_with fail
  go_big_quiet (fail)
  all_goals go_wp2_with fail
  all_goals go_ret
  all_goals exact ⟨rfl, below_n (Below.refl _ _) _⟩
end
end Go.Proofs.Ytlmnfnkjbgnklaa.Jrnl
end

section
/- A journal in memory: Header. -/
set_option linter.unusedVariables false
set_option linter.unusedSimpArgs false
namespace Go.Proofs.Ytlmnfnkjbgnklaa.Jrnl
open Go.RowKit Go.Proofs.YtlmnfnkjbgnklaaW.PrintWords Go.Proofs.YtlmnfnkjbgnklaaW.PrintLast Go.Proofs.YtlmnfnkjbgnklaaW.PrintMore Go.Proofs.Ytlmnfnkjbgnklaa.TxnS Go.Proofs.Ytlmnfnkjbgnklaa.Txn Go.Proofs.Ytlmnfnkjbgnklaa.JS Go.Proofs.Ytlmnfnkjbgnklaa.Run Go.Proofs.Ytlmnfnkjbgnklaa.Spec
section
variable {B jb : Nat} {v : Value} {J : Jr} {w : World}
/-- What a header can say. -/
structure HW (J : Jr) : Prop where
  t0 : 0 ≤ J.tail
  tr : J.tail < 65536
  f1 : 0 ≤ J.first
  f2 : J.first ≤ 1152921504606846976
  n1 : 0 ≤ J.first + J.sealed
  n2 : J.first + J.sealed ≤ 1152921504606846976
theorem _root_.Go.Proofs.Ytlmnfnkjbgnklaa.JS.JW.hw (h : JW J) : HW J := by
  have := h.r255; have := h.tr; have := h.f1; have := h.fn; have := h.s0; have := h.sn
  exact ⟨h.t0, by omega, by omega, by omega, by omega, by omega⟩
set_option maxHeartbeats 3200000 in
set_option maxRecDepth 100000 in
theorem header_calls (h : JIs B w jb v J) (hw : HW J) : Calls Try.prog 19 #[ptr jb] w fun e w' => e = .returned (.string (headJ J)) ∧ Below w.heap.size w w' := by
  have hu := Try.underlying72
  have hup := Try.underlying23
  have HC : Aside0 (∀ W, Below w.heap.size w W → W.cell? ⟨jb, 1, none⟩ = some (.int .i64 J.tail) ∧ W.cell? ⟨jb, 2, none⟩ = some (.int .i64 J.first) ∧ W.cell? ⟨jb, 3, none⟩ = some (.int .i64 J.sealed)) := ⟨fun W hb => ⟨(h.below hb).c1, (h.below hb).c2, (h.below hb).c3⟩⟩
  have HT : Aside0 (headJ J = (blockS ((⟨#[72]⟩ : ByteArray) ++ strOfNums (le J.tail 2 ++ le J.first 8 ++ le (J.first + J.sealed) 8))).1) := ⟨rfl⟩
  have HZ := Aside0.mk (headTx_size J)
  have t0 := hw.t0
  have tr := hw.tr
  have f1 := hw.f1
  have f2 := hw.f2
  have n1 := hw.n1
  have n2 := hw.n2
  unfold headTx at HZ
  generalize headJ J = hJ at HT ⊢
  obtain ⟨J0, Jt, Jf, Js, Jz⟩ := J
  dsimp only at *
  have w1 : IntKind.i64.wrap (Jf + Js) = Jf + Js := IntWalk.i64_in _ (by omega)
  clear h hw
  unfold ptr
  go_enter Try.func19, Try.ntmps19
  go_wp2_with fail
  refine (Codec.new_any _).mono ?_
  rintro e w1 ⟨g, rfl, hI, hB⟩
  have HI1 := Aside0.mk hI
  have HB1 := Aside0.mk hB
  clear hI hB
  have c1 := (HC.out _ HB1.out).1
  go_wp2_with fail
  refine (Codec.fixed_2 Jt w.heap.size g [] w1 HI1.out (by simp) t0 (by omega)).mono ?_
  rintro e w2 ⟨rfl, hI, hB, _⟩
  have HI2 := Aside0.mk hI
  have HB2 := Aside0.mk (HB1.out.trans hB)
  clear hI hB HI1 c1
  have c2 := (HC.out _ HB2.out).2.1
  go_wp2_with fail
  refine (Codec.fixed_8 Jf w.heap.size g _ w2 HI2.out (by simp [le_length]) f1 (by omega)).mono ?_
  rintro e w3 ⟨rfl, hI, hB, _⟩
  have HI3 := Aside0.mk hI
  have HB3 := Aside0.mk (HB2.out.trans hB)
  clear hI hB HI2 c2
  obtain ⟨-, c2, c3⟩ := HC.out _ HB3.out
  have HI3' : Aside0 (Codec.IsW w3.drew w.heap.size g ([] ++ le Jt 2 ++ le Jf 8)) := ⟨HI3.out⟩
  have HB3' : Aside0 (Below w.heap.size w w3.drew) := ⟨below_drew1 HB3.out⟩
  go_wp2_with fail
  go_region_with (go_at_call 36; refine (Codec.fixed_8 (Jf + Js) w.heap.size g _ w3.drew HI3'.out (by simp [le_length]) n1 (by omega)).mono ?_; rintro e w4 ⟨rfl, hI, hB, _⟩; have HI4 := Aside0.mk hI; have HB4 := Aside0.mk (HB3'.out.trans hB); clear hI hB)
  all_goals
    have HI5 : Aside0 (Codec.IsW w4 w.heap.size g (le Jt 2 ++ le Jf 8 ++ le (Jf + Js) 8)) := ⟨HI4.out⟩
    clear c2 c3 HI3 HI3' HI4
    have HL : Aside0 ((strOfNums (le Jt 2 ++ le Jf 8 ++ le (Jf + Js) 8)).size = 18) := ⟨by rw [strOfNums_size, List.length_append, List.length_append, le_length, le_length, le_length]⟩
    go_wp2_with fail
    refine (Codec.out_any w.heap.size g _ w4 HI5.out).mono ?_
    generalize strOfNums (le Jt 2 ++ le Jf 8 ++ le (Jf + Js) 8) = L at HT HZ HL
    have hL := HL.out
    rintro e w7 ⟨rfl, rfl⟩
    obtain ⟨b2, hb2⟩ : ∃ b2, b2 = (blockS ((⟨#[72]⟩ : ByteArray) ++ L)).2 := ⟨_, rfl⟩
    have HX := Aside0.mk (C.sum_Block.calls ((⟨#[72]⟩ : ByteArray) ++ L) hJ b2 w4 (by rw [HT.out, hb2]; exact C.lim_ok _ (by rw [HZ.out]; omega)))
    clear HI5 hb2
    go_wp2_with fail
    refine HX.out.mono ?_
    rintro e w8 ⟨rfl, hB⟩
    have HB8 := Aside0.mk (HB4.out.trans (hB.mono HB4.out.size))
    clear hB
    go_wp2_with fail
    go_ret
    exact ⟨rfl, HB8.out⟩
end
end Go.Proofs.Ytlmnfnkjbgnklaa.Jrnl
end

section
/- A journal in memory: Seal, Done. -/
set_option linter.unusedVariables false
set_option linter.unusedSimpArgs false
namespace Go.Proofs.Ytlmnfnkjbgnklaa.Jrnl
open Go.RowKit Go.Proofs.YtlmnfnkjbgnklaaW.PrintWords Go.Proofs.YtlmnfnkjbgnklaaW.PrintLast Go.Proofs.YtlmnfnkjbgnklaaW.PrintMore Go.Proofs.Ytlmnfnkjbgnklaa.TxnS Go.Proofs.Ytlmnfnkjbgnklaa.Txn Go.Proofs.Ytlmnfnkjbgnklaa.JS Go.Proofs.Ytlmnfnkjbgnklaa.Run Go.Proofs.Ytlmnfnkjbgnklaa.Spec
/-- All blocks but some are as they were. -/
structure Fr (w w' : World) (f : Nat → Prop) : Prop where
  os : w'.os = w.os
  tape : w'.tape = w.tape
  output : w'.output = w.output
  size : w.heap.size ≤ w'.heap.size
  block : ∀ k, k < w.heap.size → ¬ f k → w'.heap[k]? = w.heap[k]?
theorem Fr.refl (w : World) (f : Nat → Prop) : Fr w w f := ⟨rfl, rfl, rfl, Nat.le_refl _, fun _ _ _ => rfl⟩
theorem Fr.of_below {w w' : World} (h : Below w.heap.size w w') (f : Nat → Prop) : Fr w w' f := ⟨h.os, h.tape, h.output, h.size, fun k hk _ => h.block k hk⟩
theorem Fr.trans {w w1 w' : World} {f : Nat → Prop} (h : Fr w w1 f) {g : Nat → Prop} (k : Fr w1 w' g) (hg : ∀ i, g i → f i ∨ w.heap.size ≤ i) : Fr w w' f :=
  ⟨k.os.trans h.os, k.tape.trans h.tape, k.output.trans h.output, Nat.le_trans h.size k.size, fun i hi hn => (k.block i (Nat.lt_of_lt_of_le hi h.size) (fun hgi => by
    rcases hg i hgi with h2 | h2
    · exact hn h2
    · omega)).trans (h.block i hi hn)⟩
theorem Fr.below {B : Nat} {W w w' : World} {f : Nat → Prop} (hW : Below B W w) (h : Fr w w' f) (hf : ∀ k, f k → B ≤ k) (hB : B ≤ w.heap.size) : Below B W w' :=
  ⟨h.os.trans hW.os, h.tape.trans hW.tape, h.output.trans hW.output, Nat.le_trans hW.size h.size, fun i hi => (h.block i (by omega) (fun hk => by have := hf i hk; omega)).trans (hW.block i hi)⟩
theorem Fr.of_grown {w w' : World} {r : Option Nat} (h : w.grownBy w' r) {f : Nat → Prop} (hf : ∀ k, r = some k → f k) : Fr w w' f := ⟨h.os, h.tape, h.output, h.size, fun k hk hn => h.block k hk (fun e => hn (hf k e.symm))⟩
theorem Fr.set (w : World) (b i : Nat) (u : Value) {f : Nat → Prop} (hf : f b) : Fr w (w.setCell ⟨b, i, none⟩ u) f := ⟨rfl, rfl, rfl, by simp [World.setCell], fun k hk hn => by
  have : ¬ b = k := fun e => hn (e ▸ hf)
  simp [World.setCell, Array.getElem?_modify, this]⟩
theorem blk_set {w : World} {g : Nat} {t : TypeId} {cs : Array Value} {fr : Nat × Nat} (h : w.heap[g]? = some (.cells cs t fr)) (i : Nat) (u : Value) : (w.setCell ⟨g, i, none⟩ u).heap[g]? = some (.cells (cs.setIfInBounds i u) t fr) := by
  simp [World.setCell, Array.getElem?_modify, h]
theorem blk_set_ne {w : World} {g b : Nat} (i : Nat) (u : Value) (h : b ≠ g) : (w.setCell ⟨b, i, none⟩ u).heap[g]? = w.heap[g]? := by
  simp [World.setCell, Array.getElem?_modify, h]
theorem JIs.fr {B jb : Nat} {v : Value} {J : Jr} {w w' : World} {f : Nat → Prop} (h : JIs B w jb v J) (hf : Fr w w' f) (hd : ∀ k, fp jb v k → ¬ f k) : JIs B w' jb v J := h.step fun k hk => hf.block k (h.lt hk) (hd k hk)
def JPost (B jb : Nat) (v : Value) (w : World) (r : Value) (J' : Jr) (e : Ending) (w' : World) : Prop :=
  ∃ v', e = .returned r ∧ JIs B w' jb v' J' ∧ Fr w w' (fp jb v) ∧ ∀ k, fp jb v' k → fp jb v k ∨ w.heap.size ≤ k
section
variable {B jb : Nat} {v : Value} {J : Jr} {w : World}
theorem JIs.set0 (h : JIs B w jb v J) (x : Int) : JIs B (w.setCell ⟨jb, 1, none⟩ (.int .i64 x)) jb v { J with tail := x } := ⟨blk_set h.blk 1 _, h.row.step fun k hk => blk_set_ne 1 _ (fun e => h.ne (e ▸ hk)), h.bd, h.ne⟩
theorem JIs.set2 (h : JIs B w jb v J) (x : Int) : JIs B (w.setCell ⟨jb, 2, none⟩ (.int .i64 x)) jb v { J with first := x } := ⟨blk_set h.blk 2 _, h.row.step fun k hk => blk_set_ne 2 _ (fun e => h.ne (e ▸ hk)), h.bd, h.ne⟩
theorem JIs.set3 (h : JIs B w jb v J) (x : Int) : JIs B (w.setCell ⟨jb, 3, none⟩ (.int .i64 x)) jb v { J with sealed := x } := ⟨blk_set h.blk 3 _, h.row.step fun k hk => blk_set_ne 3 _ (fun e => h.ne (e ▸ hk)), h.bd, h.ne⟩
theorem JIs.set4 (h : JIs B w jb v J) {v' : Value} {l : List Nat} (hr : RowX w B 3 v' (sv l)) (hn : v'.ownBlock ≠ some jb) : JIs B (w.setCell ⟨jb, 4, none⟩ v') jb v' { J with sizes := l } := ⟨blk_set h.blk 4 _, hr.step fun k hk => blk_set_ne 4 _ (fun e => hn (e ▸ hk)), h.bd, hn⟩
theorem sv_drop (l : List Nat) (k : Nat) : sv (l.drop k) = (sv l).drop k := by simp [sv, List.map_drop]
set_option maxHeartbeats 3200000 in
set_option maxRecDepth 100000 in
theorem seal_calls (h : JIs B w jb v J) (hw : JW J) : Calls Try.prog 16 #[ptr jb] w (JPost B jb v w (.agg #[.int .i64 0, .string (headJ (sealJ J))]) (sealJ J)) := by
  have hu := Try.underlying72
  have hup := Try.underlying23
  have huw := Try.underlying42
  obtain ⟨A, c, rfl⟩ := h.slice
  have P1 := Aside0.mk (blk_new w (.cells #[.int .i64 0, .string ⟨#[]⟩] 42))
  have B1 := Aside0.mk (below_alloc (Below.refl w.heap.size w) (.cells #[.int .i64 0, .string ⟨#[]⟩] 42))
  have H1 := Aside0.mk (h.below B1.out)
  have HJ : Aside0 (∀ k, fp jb (.slice A J.sizes.length c) k → k < w.heap.size) := ⟨fun k hk => h.lt hk⟩
  have HW := Aside0.mk hw
  clear h hw
  unfold ptr
  go_enter Try.func16, Try.ntmps16
  go_upto_region 1 with fail
  generalize hW : w.alloc (.cells #[.int .i64 0, .string ⟨#[]⟩] 42) = W1 at P1 B1 H1 ⊢
  clear hW
  have c4 := H1.out.c4
  have f3 := blk_frozen H1.out.blk 3
  have c3 := H1.out.c3
  go_upto_region 4 with fail
  have hne : jb ≠ w.heap.size := by have := HJ.out jb (.inl rfl); omega
  have H2 : Aside0 (JIs B (W1.setCell ⟨jb, 3, none⟩ (.int .i64 (J.sizes.length : Int))) jb (.slice A J.sizes.length c) (sealJ J)) := ⟨H1.out.set3 (J.sizes.length : Int)⟩
  have F2 : Aside0 (Fr w (W1.setCell ⟨jb, 3, none⟩ (.int .i64 (J.sizes.length : Int))) (fp jb (.slice A J.sizes.length c))) := ⟨(Fr.of_below B1.out _).trans (Fr.set W1 jb 3 _ (.inl rfl)) (fun _ h => .inl h)⟩
  have P2 := Aside0.mk ((blk_set_ne 3 (.int .i64 (J.sizes.length : Int)) hne).trans P1.out)
  have S2 : Aside0 (w.heap.size < (W1.setCell ⟨jb, 3, none⟩ (.int .i64 (J.sizes.length : Int))).heap.size) := ⟨blk_lt P2.out⟩
  generalize W1.setCell ⟨jb, 3, none⟩ (.int .i64 (J.sizes.length : Int)) = W2 at H2 F2 P2 S2 ⊢
  clear c4 f3 c3 H1 B1 P1
  have HX := Aside0.mk (header_calls H2.out (sealJ_ok HW.out).hw)
  obtain ⟨hd, hhd⟩ : ∃ hd, hd = headJ (sealJ J) := ⟨_, rfl⟩
  rw [← hhd] at HX
  have HH := Aside0.mk hhd
  clear hhd
  unfold ptr at HX
  go_wp2_with fail
  refine HX.out.mono ?_
  rintro e w3 ⟨rfl, hB⟩
  have H3 := Aside0.mk (H2.out.below hB)
  have F3 := Aside0.mk (F2.out.trans (Fr.of_below hB (fp jb (.slice A J.sizes.length c))) (fun _ h => .inl h))
  have P3 := Aside0.mk ((hB.block _ S2.out).trans P2.out)
  obtain ⟨g, hg⟩ : ∃ g, g = w.heap.size := ⟨_, rfl⟩
  rw [← hg] at P3 ⊢
  have HG := Aside0.mk hg
  clear hB H2 F2 P2 S2 HX hne hg
  have p0 := (blk_cell P3.out 0).trans (Eq.refl (some (Value.int .i64 0)))
  have p1 := (blk_cell P3.out 1).trans (Eq.refl (some (Value.string ⟨#[]⟩)))
  have f0 := blk_frozen P3.out 0
  have f1 := blk_frozen P3.out 1
  go_wp2_with fail
  have P4 : Aside0 (((w3.setCell ⟨g, 0, none⟩ (.int .i64 0)).setCell ⟨g, 1, none⟩ (.string hd)).heap[g]? = some (.cells #[.int .i64 0, .string hd] 42 (0, 0))) := ⟨(blk_set (blk_set P3.out 0 _) 1 _).trans rfl⟩
  have F4 : Aside0 (Fr w3 ((w3.setCell ⟨g, 0, none⟩ (.int .i64 0)).setCell ⟨g, 1, none⟩ (.string hd)) (· = g)) := ⟨(Fr.set w3 g 0 (.int .i64 0) (f := (· = g)) rfl).trans (Fr.set _ g 1 (.string hd) (f := (· = g)) rfl) (fun _ h => .inl h)⟩
  generalize (w3.setCell ⟨g, 0, none⟩ (.int .i64 0)).setCell ⟨g, 1, none⟩ (.string hd) = w4 at P4 F4 ⊢
  clear p0 p1 f0 f1
  have p0 := (blk_cell P4.out 0).trans (Eq.refl (some (Value.int .i64 0)))
  have p1 := (blk_cell P4.out 1).trans (Eq.refl (some (Value.string hd)))
  refine bodyPost_ret (v := .agg #[.int .i64 0, .string hd]) (by simp [results, Try.results16, go_sem, p0, p1, huw]) rfl ⟨_, by rw [HH.out], H3.out.fr F4.out (fun k hk e => ?_), F3.out.trans F4.out (fun k hk => .inr (by rw [hk, HG.out]; exact Nat.le_refl _)), fun k hk => .inl hk⟩
  have h1 := HJ.out k hk
  rw [e, HG.out] at h1
  exact Nat.lt_irrefl _ h1
set_option maxHeartbeats 3200000 in
set_option maxRecDepth 100000 in
theorem done_no (h : JIs B w jb v J) (k : Int) (hk : k < 0 ∨ J.sealed < k) : Calls Try.prog 14 #[ptr jb, .int .i64 k] w fun e w' => e = .returned (.tuple #[.agg #[.int .i64 0, .string ⟨#[]⟩], .int .i64 1]) ∧ Below w.heap.size w w' := by
  have hu := Try.underlying72
  have hup := Try.underlying23
  have huw := Try.underlying42
  have P1 := Aside0.mk (blk_new w (.cells #[.int .i64 0, .string ⟨#[]⟩] 42))
  have B1 := Aside0.mk (below_alloc (Below.refl w.heap.size w) (.cells #[.int .i64 0, .string ⟨#[]⟩] 42))
  have HCt := Aside0.mk (count_calls (h.below B1.out))
  clear h
  generalize J.sealed = sl at *
  generalize J.sizes.length = zl at *
  obtain ⟨g, hg⟩ : ∃ g, g = w.heap.size := ⟨_, rfl⟩
  have HG := Aside0.mk hg
  have hb : decide (k < 0) = true ∨ (decide (k < 0) = false ∧ decide (k > sl) = true) := by simp; omega
  unfold ptr at *
  go_enter Try.func14, Try.ntmps14
  go_upto_region 1 with fail
  generalize hW : w.alloc (.cells #[.int .i64 0, .string ⟨#[]⟩] 42) = W1 at P1 B1 HCt ⊢
  clear hW
  rw [← hg] at P1 ⊢
  clear hg
  go_wp2_with fail
  refine HCt.out.mono ?_
  rintro e w2 ⟨rfl, hB⟩
  have P2 := Aside0.mk ((hB.block _ (blk_lt P1.out)).trans P1.out)
  have B2 := Aside0.mk (B1.out.trans (hB.mono B1.out.size))
  clear hB P1 HCt
  have p0 := (blk_cell P2.out 0).trans (Eq.refl (some (Value.int .i64 0)))
  have p1 := (blk_cell P2.out 1).trans (Eq.refl (some (Value.string ⟨#[]⟩)))
  have f0 := blk_frozen P2.out 0
  have f1 := blk_frozen P2.out 1
  have P4 : Aside0 (((w2.setCell ⟨g, 0, none⟩ (.int .i64 0)).setCell ⟨g, 1, none⟩ (.string ⟨#[]⟩)).heap[g]? = some (.cells #[.int .i64 0, .string ⟨#[]⟩] 42 (0, 0))) := ⟨(blk_set (blk_set P2.out 0 _) 1 _).trans rfl⟩
  have B4 : Aside0 (Below w.heap.size w ((w2.setCell ⟨g, 0, none⟩ (.int .i64 0)).setCell ⟨g, 1, none⟩ (.string ⟨#[]⟩))) := ⟨(B2.out.setCell (p := ⟨g, 0, none⟩) (by rw [HG.out]; exact Nat.le_refl _) _).setCell (p := ⟨g, 1, none⟩) (by rw [HG.out]; exact Nat.le_refl _) _⟩
  rcases hb with b1 | ⟨b1, b2⟩
  all_goals
    go_wp2_with fail
    generalize (w2.setCell ⟨g, 0, none⟩ (.int .i64 0)).setCell ⟨g, 1, none⟩ (.string ⟨#[]⟩) = w4 at P4 B4 ⊢
    clear p0 p1 f0 f1
    have p0 := (blk_cell P4.out 0).trans (Eq.refl (some (Value.int .i64 0)))
    have p1 := (blk_cell P4.out 1).trans (Eq.refl (some (Value.string ⟨#[]⟩)))
    exact bodyPost_ret (v := .tuple #[.agg #[.int .i64 0, .string ⟨#[]⟩], .int .i64 1]) (by simp [results, Try.results14, go_sem, p0, p1, huw]) rfl ⟨rfl, B4.out⟩
set_option maxHeartbeats 3200000 in
set_option maxRecDepth 100000 in
theorem done_yes (h : JIs B w jb v J) (hw : JW J) (k : Nat) (hk : (k : Int) ≤ J.sealed) : Calls Try.prog 14 #[ptr jb, .int .i64 (k : Int)] w (JPost B jb v w (.tuple #[.agg #[.int .i64 0, .string (headJ (doneJ J k))], .int .i64 0]) (doneJ J k)) := by
  have hu := Try.underlying72
  have hup := Try.underlying23
  have huw := Try.underlying42
  obtain ⟨A, c, rfl⟩ := h.slice
  have P1 := Aside0.mk (blk_new w (.cells #[.int .i64 0, .string ⟨#[]⟩] 42))
  have B1 := Aside0.mk (below_alloc (Below.refl w.heap.size w) (.cells #[.int .i64 0, .string ⟨#[]⟩] 42))
  have H1 := Aside0.mk (h.below B1.out)
  have HJ : Aside0 (∀ k, fp jb (.slice A J.sizes.length c) k → k < w.heap.size) := ⟨fun k hk => h.lt hk⟩
  have HW := Aside0.mk hw
  have hkl : k ≤ J.sizes.length := by have := hw.sn; omega
  have HCt := Aside0.mk (count_calls H1.out)
  have hsm := hw.sml
  have htk := sum_take_le J.sizes k
  obtain ⟨s, hs⟩ : ∃ s, s = (J.sizes.take k).sum := ⟨_, rfl⟩
  obtain ⟨T', hT'⟩ : ∃ T', T' = (J.tail + (s : Int)) % J.ring := ⟨_, rfl⟩
  have HSs := Aside0.mk hs
  have HT' := Aside0.mk hT'
  have HTm : Aside0 ((J.tail + (s : Int)).tmod J.ring = T') := ⟨by rw [hT']; exact Int.tmod_eq_emod_of_nonneg (by have := hw.t0; omega)⟩
  rw [← hs] at htk
  have ht1 := hw.t0
  have ht2 := hw.tr
  have ht3 := hw.r255
  have ht4 := hw.f1
  have ht5 := hw.fn
  have b1 : decide ((k : Int) < 0) = false := decide_eq_false (by omega)
  have b2 : decide ((k : Int) > J.sealed) = false := decide_eq_false (by omega)
  have w1 : IntKind.i64.wrap (J.tail + (s : Int)) = J.tail + (s : Int) := IntWalk.i64_in _ (by omega)
  have q2 : IntKind.i64.wrap (J.first + (k : Int)) = J.first + (k : Int) := IntWalk.i64_in _ (by omega)
  have q3 : IntKind.i64.wrap (J.sealed - (k : Int)) = J.sealed - (k : Int) := IntWalk.i64_in _ (by have := hw.sn; omega)
  have hr0 : (J.ring == 0) = false := by have := hw.r7; simp; omega
  obtain ⟨g, hg⟩ : ∃ g, g = w.heap.size := ⟨_, rfl⟩
  have HG := Aside0.mk hg
  have HU : Aside0 (∀ W, Below (w.alloc (.cells #[.int .i64 0, .string ⟨#[]⟩] 42)).heap.size (w.alloc (.cells #[.int .i64 0, .string ⟨#[]⟩] 42)) W → Calls Try.prog 32 #[ptr jb, .int .i64 (k : Int)] W fun e w' => e = .returned (.int .i64 (s : Int)) ∧ Below W.heap.size W w') := ⟨fun W hb => by
    have := used_calls (H1.out.below hb) k hkl (by omega) (by omega)
    rwa [← hs] at this⟩
  have HKs := Aside0.mk hk
  clear h hw hk hs hT'
  unfold ptr at *
  go_enter Try.func14, Try.ntmps14
  go_upto_region 1 with fail
  generalize hW : w.alloc (.cells #[.int .i64 0, .string ⟨#[]⟩] 42) = W1 at P1 B1 H1 HCt HU ⊢
  clear hW
  rw [← hg] at P1 ⊢
  clear hg
  go_wp2_with fail
  refine HCt.out.mono ?_
  rintro e w2 ⟨rfl, hB⟩
  have P2 := Aside0.mk ((hB.block _ (blk_lt P1.out)).trans P1.out)
  have B12 := Aside0.mk hB
  have B2 := Aside0.mk (B1.out.trans (hB.mono B1.out.size))
  clear hB HCt
  go_upto_region 6 with fail
  have HC : Aside0 (∀ W, Below W1.heap.size W1 W → W.cell? ⟨jb, 0, none⟩ = some (.int .i64 J.ring) ∧ W.cell? ⟨jb, 1, none⟩ = some (.int .i64 J.tail) ∧ W.frozen? ⟨jb, 1, none⟩ = false) := ⟨fun W hb => ⟨(H1.out.below hb).c0, (H1.out.below hb).c1, blk_frozen (H1.out.below hb).blk 1⟩⟩
  have B0 : Aside0 (Below W1.heap.size W1 w2.drew) := ⟨below_drew1 B12.out⟩
  have hr1 : ¬ J.ring = 0 := by simpa using hr0
  have HGl : Aside0 (g < W1.heap.size) := ⟨blk_lt P1.out⟩
  have hjg : jb ≠ g := by have := HJ.out jb (.inl rfl); have := HG.out; omega
  have HJG := Aside0.mk hjg
  clear hjg
  go_cut [5] (fun v5 wc => v5 = .int .i64 0 ∧ Aside0 (JIs B wc jb (.slice A J.sizes.length c) { J with tail := T' }) ∧ Aside0 (Fr w wc (fp jb (.slice A J.sizes.length c))) ∧ Aside0 (wc.heap[g]? = some (.cells #[.int .i64 0, .string ⟨#[]⟩] 42 (0, 0))))
  case first =>
    obtain ⟨c0, c1, f1⟩ := HC.out _ B12.out
    obtain ⟨c0d, c1d, f1d⟩ := HC.out _ B0.out
    go_region_with (go_at_call 32; refine (HU.out _ B0.out).mono ?_; rintro e w3 ⟨rfl, hB⟩; have B3 := Aside0.mk (B0.out.trans (hB.mono B0.out.size)); obtain ⟨c0e, c1e, f1e⟩ := HC.out _ B3.out; clear hB)
    all_goals
      have H3 := Aside0.mk ((H1.out.below B3.out).set0 T')
      have F3 := Aside0.mk ((Fr.of_below (B1.out.trans (B3.out.mono B1.out.size)) (fp jb (.slice A J.sizes.length c))).trans (Fr.set w3 jb 1 (.int .i64 T') (f := fp jb (.slice A J.sizes.length c)) (.inl rfl)) (fun _ h => .inl h))
      have P3 := Aside0.mk ((blk_set_ne 1 (.int .i64 T') HJG.out).trans ((B3.out.block _ HGl.out).trans P1.out))
      first | rw [← HT'.out] | rw [HTm.out]
      generalize w3.setCell ⟨jb, 1, none⟩ (.int .i64 T') = w4 at H3 F3 P3 ⊢
      clear c0 c1 f1 c0d c1d f1d c0e c1e f1e
      go_wp2_with fail
      go_meet
      case rel => exact ⟨rfl, H3, F3, P3⟩
  case rest =>
    obtain ⟨rfl, H3, F3, P3⟩ := hcut
    clear HC HU B0 B12 P1 P2 H1 HGl w1 hr0 hr1 b1 b2 HTm ht1 ht2 ht3
    have H4 := Aside0.mk (H3.out.set2 (J.first + (k : Int)))
    have F4 := Aside0.mk (F3.out.trans (Fr.set wc jb 2 (.int .i64 (J.first + (k : Int))) (f := fp jb (.slice A J.sizes.length c)) (.inl rfl)) (fun _ h => .inl h))
    have P4 := Aside0.mk ((blk_set_ne 2 (.int .i64 (J.first + (k : Int))) HJG.out).trans P3.out)
    have c2 := H3.out.c2
    have f2 := blk_frozen H3.out.blk 2
    dsimp only at c2
    go_upto_region 8 with fail
    generalize wc.setCell ⟨jb, 2, none⟩ (.int .i64 (J.first + (k : Int))) = w4 at H4 F4 P4 ⊢
    clear c2 f2 H3 F3 P3 q2
    have H5 := Aside0.mk (H4.out.set3 (J.sealed - (k : Int)))
    have F5 := Aside0.mk (F4.out.trans (Fr.set w4 jb 3 (.int .i64 (J.sealed - (k : Int))) (f := fp jb (.slice A J.sizes.length c)) (.inl rfl)) (fun _ h => .inl h))
    have P5 := Aside0.mk ((blk_set_ne 3 (.int .i64 (J.sealed - (k : Int))) HJG.out).trans P4.out)
    have c3 := H4.out.c3
    have f3 := blk_frozen H4.out.blk 3
    dsimp only at c3
    go_upto_region 9 with fail
    generalize w4.setCell ⟨jb, 3, none⟩ (.int .i64 (J.sealed - (k : Int))) = w5 at H5 F5 P5 ⊢
    clear c3 f3 H4 F4 P4 q3
    have c4 := H5.out.c4
    have f4 := blk_frozen H5.out.blk 4
    have hlc : J.sizes.length ≤ c := by
      rcases H5.out.row with ⟨h1, h2⟩ | ⟨g, off, cap, C, h1, _, _, h3, _⟩
      · simp only [Value.slice.injEq] at h1; omega
      · simp only [Value.slice.injEq] at h1
        have := h1.2.2
        rw [sv_length] at h3
        dsimp only at h3
        omega
    go_upto_region 11 with fail
    obtain ⟨hr6, ho6⟩ := RowX.cut (k := k) H5.out.row (by rw [sv_length]) hkl
    dsimp only at hr6
    rw [← sv_drop] at hr6
    have hn6 := H5.out.ne
    rw [← ho6] at hn6
    have H6 : Aside0 (JIs B (w5.setCell ⟨jb, 4, none⟩ (.slice (if J.sizes.length = k then A else A.map fun x => x.add k) (J.sizes.length - k) (J.sizes.length - k))) jb (.slice (if J.sizes.length = k then A else A.map fun x => x.add k) (J.sizes.length - k) (J.sizes.length - k)) (doneJ J k)) := ⟨by
      have := H5.out.set4 hr6 hn6
      have e : (doneJ J k) = { ring := J.ring, tail := T', first := J.first + (k : Int), sealed := J.sealed - (k : Int), sizes := J.sizes.drop k } := by
        unfold doneJ
        rw [HT'.out, HSs.out]
      rw [e]
      exact this⟩
    have F6 := Aside0.mk (F5.out.trans (Fr.set w5 jb 4 (.slice (if J.sizes.length = k then A else A.map fun x => x.add k) (J.sizes.length - k) (J.sizes.length - k)) (f := fp jb (.slice A J.sizes.length c)) (.inl rfl)) (fun _ h => .inl h))
    have P6 := Aside0.mk ((blk_set_ne 4 (.slice (if J.sizes.length = k then A else A.map fun x => x.add k) (J.sizes.length - k) (J.sizes.length - k)) HJG.out).trans P5.out)
    have HO6 := Aside0.mk ho6
    clear hr6 hn6 ho6 c4 f4 H5 F5 P5 hlc
    generalize w5.setCell ⟨jb, 4, none⟩ (.slice (if J.sizes.length = k then A else A.map fun x => x.add k) (J.sizes.length - k) (J.sizes.length - k)) = w6 at H6 F6 P6 ⊢
    generalize (if J.sizes.length = k then A else A.map fun x => x.add k) = A6 at H6 HO6
    have HX := Aside0.mk (header_calls H6.out (doneJ_ok HW.out k HKs.out).hw)
    obtain ⟨hd, hhd⟩ : ∃ hd, hd = headJ (doneJ J k) := ⟨_, rfl⟩
    rw [← hhd] at HX
    have HH := Aside0.mk hhd
    clear hhd
    unfold ptr at HX
    go_wp2_with fail
    refine HX.out.mono ?_
    rintro e w7 ⟨rfl, hB⟩
    have H7 := Aside0.mk (H6.out.below hB)
    have F7 := Aside0.mk (F6.out.trans (Fr.of_below hB (fp jb (.slice A J.sizes.length c))) (fun _ h => .inl h))
    have P7 := Aside0.mk ((hB.block _ (blk_lt P6.out)).trans P6.out)
    clear hB H6 F6 P6 HX
    have p0 := (blk_cell P7.out 0).trans (Eq.refl (some (Value.int .i64 0)))
    have p1 := (blk_cell P7.out 1).trans (Eq.refl (some (Value.string ⟨#[]⟩)))
    have f0 := blk_frozen P7.out 0
    have f1 := blk_frozen P7.out 1
    go_wp2_with fail
    have P8 : Aside0 (((w7.setCell ⟨g, 0, none⟩ (.int .i64 0)).setCell ⟨g, 1, none⟩ (.string hd)).heap[g]? = some (.cells #[.int .i64 0, .string hd] 42 (0, 0))) := ⟨(blk_set (blk_set P7.out 0 _) 1 _).trans rfl⟩
    have F8 : Aside0 (Fr w7 ((w7.setCell ⟨g, 0, none⟩ (.int .i64 0)).setCell ⟨g, 1, none⟩ (.string hd)) (· = g)) := ⟨(Fr.set w7 g 0 (.int .i64 0) (f := (· = g)) rfl).trans (Fr.set _ g 1 (.string hd) (f := (· = g)) rfl) (fun _ h => .inl h)⟩
    generalize (w7.setCell ⟨g, 0, none⟩ (.int .i64 0)).setCell ⟨g, 1, none⟩ (.string hd) = w8 at P8 F8 ⊢
    clear p0 p1 f0 f1
    have p0 := (blk_cell P8.out 0).trans (Eq.refl (some (Value.int .i64 0)))
    have p1 := (blk_cell P8.out 1).trans (Eq.refl (some (Value.string hd)))
    have HFp : Aside0 (∀ i, fp jb (.slice A6 (J.sizes.length - k) (J.sizes.length - k)) i → fp jb (.slice A J.sizes.length c) i) := ⟨fun i hi => by
      rcases hi with rfl | hi
      · exact .inl rfl
      · exact .inr (by rw [← HO6.out]; exact hi)⟩
    refine bodyPost_ret (v := .tuple #[.agg #[.int .i64 0, .string hd], .int .i64 0]) (by simp [results, Try.results14, go_sem, p0, p1, huw]) rfl ⟨_, by rw [HH.out], H7.out.fr F8.out (fun i hi e => ?_), F7.out.trans F8.out (fun i hi => .inr (by rw [hi, HG.out]; exact Nat.le_refl _)), fun i hi => .inl (HFp.out i hi)⟩
    have h1 := HJ.out i (HFp.out i hi)
    rw [e, HG.out] at h1
    exact Nat.lt_irrefl _ h1
end
end Go.Proofs.Ytlmnfnkjbgnklaa.Jrnl
end

section
/- A journal in memory: Append. -/
set_option linter.unusedVariables false
set_option linter.unusedSimpArgs false
namespace Go.Proofs.Ytlmnfnkjbgnklaa.Jrnl
open Go.RowKit Go.Proofs.YtlmnfnkjbgnklaaW.PrintWords Go.Proofs.YtlmnfnkjbgnklaaW.PrintLast Go.Proofs.YtlmnfnkjbgnklaaW.PrintMore Go.Proofs.Ytlmnfnkjbgnklaa.TxnS Go.Proofs.Ytlmnfnkjbgnklaa.Txn Go.Proofs.Ytlmnfnkjbgnklaa.JS Go.Proofs.Ytlmnfnkjbgnklaa.Run Go.Proofs.Ytlmnfnkjbgnklaa.Spec
def wsJ (J : Jr) (l : List Ch) : List Ch := wsA J.ring (J.tail + (J.sizes.sum : Nat)) (blocksL (J.first + (J.sizes.length : Int)) l)
def appJ (J : Jr) (l : List Ch) : List Ch × Int × Jr := if ¬ right l then ([], 70, J) else if ¬ room J l.length then ([], 5, J) else (wsJ J l, 0, pushJ J (l.length + 1))
def APost (B jb : Nat) (v : Value) (w : World) (r : List Ch × Int × Jr) (e : Ending) (w' : World) : Prop :=
  ∃ u v', e = .returned (.tuple #[u, .int .i64 r.2.1]) ∧ w'.ownsRow w.heap.size 42 2 u r.1.length (cv r.1) ∧ JIs B w' jb v' r.2.2 ∧ Fr w w' (fp jb v) ∧ (∀ k, fp jb v' k → fp jb v k ∨ w.heap.size ≤ k) ∧ ∀ k, u.ownBlock = some k → ¬ fp jb v' k
theorem infoW : (Try.prog.info? 42).map (fun i => (i.zero, i.size, i.bytes)) = some (some (.agg #[.int .i64 0, .string ⟨#[]⟩]), 2, 24) := by kernel_rfl
theorem infoI : (Try.prog.info? 3).map (fun i => (i.zero, i.size, i.bytes)) = some (some (.int .i64 0), 1, 8) := by kernel_rfl
theorem own_mono {w : World} {b b' : Nat} {e : TypeId} {size : Nat} {v : Value} {n : Nat} {xs : List Value} (h : w.ownsRow b' e size v n xs) (hb : b ≤ b') : w.ownsRow b e size v n xs := by
  refine ⟨h.1, ?_⟩
  rcases h.2 with h2 | ⟨g, cap, cur, hv, hg, rest⟩
  · exact .inl h2
  · exact .inr ⟨g, cap, cur, hv, by omega, rest⟩
theorem own_step {w w' : World} {b : Nat} {e : TypeId} {size : Nat} {v : Value} {n : Nat} {xs : List Value} (h : w.ownsRow b e size v n xs) (hb : ∀ k, v.ownBlock = some k → w'.heap[k]? = w.heap[k]?) : w'.ownsRow b e size v n xs := by
  refine ⟨h.1, ?_⟩
  rcases h.2 with h2 | ⟨g, cap, cur, hv, hg, hh, rest⟩
  · exact .inl h2
  · exact .inr ⟨g, cap, cur, hv, hg, (hb g (by rw [hv]; rfl)).trans hh, rest⟩
theorem sv_push (l : List Nat) (n : Nat) : sv (l ++ [n]) = sv l ++ [.int .i64 (n : Int)] := by simp [sv]
section
variable {B jb : Nat} {v : Value} {J : Jr} {w : World}
set_option maxHeartbeats 3200000 in
set_option maxRecDepth 100000 in
theorem append_no1 (h : JIs B w jb v J) (l : List Ch) (A : Option Addr) (c : Nat) (hc : Chs w A l) (hl : l.length ≤ 1125899906842624) (hr : ¬ right l) :
    Calls Try.prog 11 #[ptr jb, .slice A l.length c] w fun e w' => e = .returned (.tuple #[.slice none 0 0, .int .i64 70]) ∧ Below w.heap.size w w' := by
  have hup := Try.underlying23
  have HC := Aside0.mk (check_calls l A c w hc hl)
  rw [show chk l = 70 from if_neg hr] at HC
  clear hc hr h
  unfold ptr
  go_enter Try.func11, Try.ntmps11
  go_wp2_with fail
  refine HC.out.mono ?_
  rintro e w1 ⟨rfl, hB⟩
  have HB := Aside0.mk hB
  clear hB
  go_wp2_with fail
  go_ret2
  exact ⟨rfl, by first | exact HB.out | exact below_drew1 HB.out⟩
set_option maxHeartbeats 3200000 in
set_option maxRecDepth 100000 in
theorem append_no2 (h : JIs B w jb v J) (hw : JW J) (l : List Ch) (A : Option Addr) (c : Nat) (hc : Chs w A l) (hr : right l) (hm : ¬ room J l.length) :
    Calls Try.prog 11 #[ptr jb, .slice A l.length c] w fun e w' => e = .returned (.tuple #[.slice none 0 0, .int .i64 5]) ∧ Below w.heap.size w w' := by
  have hup := Try.underlying23
  have hl : l.length ≤ 48 := hr.2
  have HC := Aside0.mk (check_calls l A c w hc (by omega))
  rw [show chk l = 0 from if_pos hr] at HC
  have HF : Aside0 (∀ W, Below w.heap.size w W → Calls Try.prog 21 #[ptr jb] W fun e w' => e = .returned (.int .i64 (J.ring - (J.sizes.sum : Nat))) ∧ Below W.heap.size W w') := ⟨fun W hb => free_calls (h.below hb) hw⟩
  have HN : Aside0 (∀ W, Below w.heap.size w W → Calls Try.prog 23 #[ptr jb] W fun e w' => e = .returned (.int .i64 (J.first + (J.sizes.length : Int))) ∧ Below W.heap.size W w') := ⟨fun W hb => next_calls (h.below hb) (by have := hw.f1; omega) (by have := hw.fn; omega) (by have := hw.sml; omega)⟩
  obtain ⟨fr, hfr⟩ : ∃ fr, fr = J.ring - (J.sizes.sum : Nat) := ⟨_, rfl⟩
  obtain ⟨nx, hnx⟩ : ∃ nx, nx = J.first + (J.sizes.length : Int) := ⟨_, rfl⟩
  rw [← hfr] at HF
  rw [← hnx] at HN
  have w1 : IntKind.i64.wrap ((l.length : Int) + 1) = (l.length : Int) + 1 := IntWalk.i64_in _ (by omega)
  have hb : decide ((l.length : Int) + 1 > fr) = true ∨ (decide ((l.length : Int) + 1 > fr) = false ∧ decide (nx > 1099511627776) = true) := by
    unfold room at hm
    simp
    omega
  clear hc hr h hw hm hfr hnx
  unfold ptr at *
  go_enter Try.func11, Try.ntmps11
  go_wp2_with fail
  refine HC.out.mono ?_
  rintro e w1 ⟨rfl, hB⟩
  have B1 := Aside0.mk hB
  clear hB HC
  go_wp2_with fail
  refine (HF.out _ B1.out).mono ?_
  rintro e w2 ⟨rfl, hB⟩
  have B2 := Aside0.mk (B1.out.trans (hB.mono B1.out.size))
  clear hB
  rcases hb with b1 | ⟨b1, b2⟩
  · go_wp2_with fail
    go_ret2
    exact ⟨rfl, B2.out⟩
  · go_wp2_with fail
    refine (HN.out _ B2.out).mono ?_
    rintro e w3 ⟨rfl, hB⟩
    have B3 := Aside0.mk (B2.out.trans (hB.mono B2.out.size))
    clear hB
    go_wp2_with fail
    go_ret2
    exact ⟨rfl, B3.out⟩
set_option maxHeartbeats 6400000 in
set_option maxRecDepth 100000 in
theorem append_yes (h : JIs B w jb v J) (hw : JW J) (hB : B ≤ w.heap.size) (l : List Ch) (A : Option Addr) (c : Nat) (hc : Chs w A l) (hr : right l) (hm : room J l.length) :
    Calls Try.prog 11 #[ptr jb, .slice A l.length c] w (APost B jb v w (wsJ J l, 0, pushJ J (l.length + 1))) := by
  have hu := Try.underlying72
  have hup := Try.underlying23
  have huw := Try.underlying42
  obtain ⟨Az, cz, rfl⟩ := h.slice
  have hl : l.length ≤ 48 := hr.2
  have HCk := Aside0.mk (check_calls l A c w hc (by omega))
  rw [show chk l = 0 from if_pos hr] at HCk
  have HF : Aside0 (∀ W, Below w.heap.size w W → Calls Try.prog 21 #[ptr jb] W fun e w' => e = .returned (.int .i64 (J.ring - (J.sizes.sum : Nat))) ∧ Below W.heap.size W w') := ⟨fun W hb => free_calls (h.below hb) hw⟩
  have HN : Aside0 (∀ W, Below w.heap.size w W → Calls Try.prog 23 #[ptr jb] W fun e w' => e = .returned (.int .i64 (J.first + (J.sizes.length : Int))) ∧ Below W.heap.size W w') := ⟨fun W hb => next_calls (h.below hb) (by have := hw.f1; omega) (by have := hw.fn; omega) (by have := hw.sml; omega)⟩
  have HE : Aside0 (∀ W, Below w.heap.size w W → Calls Try.prog 31 #[.int .i64 (J.first + (J.sizes.length : Int)), .slice A l.length c] W fun e w' => ∃ v, e = .returned (.tuple #[v, .int .i64 0]) ∧ w'.ownsRow W.heap.size 9 1 v (blocksL (J.first + (J.sizes.length : Int)) l).length (tv (blocksL (J.first + (J.sizes.length : Int)) l)) ∧ Below W.heap.size W w') := ⟨fun W hb => enc_yes (J.first + (J.sizes.length : Int)) l A c W (hc.below hb) (by have := hw.f1; omega) hm.2 hr⟩
  have HU : Aside0 (∀ W, Below w.heap.size w W → Calls Try.prog 32 #[ptr jb, .int .i64 (J.sizes.length : Int)] W fun e w' => e = .returned (.int .i64 (J.sizes.sum : Nat)) ∧ Below W.heap.size W w') := ⟨fun W hb => used_all (h.below hb) (by have := hw.sml; omega) (by have := hw.sml; omega)⟩
  obtain ⟨N, hN⟩ : ∃ N, N = l.length + 1 := ⟨_, rfl⟩
  have hbl : (blocksL (J.first + (J.sizes.length : Int)) l).length = N := by rw [hN]; simp [blocksL]
  rw [hbl] at HE
  obtain ⟨bl, hble⟩ : ∃ bl, bl = blocksL (J.first + (J.sizes.length : Int)) l := ⟨_, rfl⟩
  obtain ⟨fr, hfr⟩ : ∃ fr, fr = J.ring - (J.sizes.sum : Nat) := ⟨_, rfl⟩
  obtain ⟨nx, hnx⟩ : ∃ nx, nx = J.first + (J.sizes.length : Int) := ⟨_, rfl⟩
  rw [← hble] at HE hbl
  rw [← hfr] at HF
  rw [← hnx] at HN HE hble
  have HBL := Aside0.mk hbl
  have HBe := Aside0.mk hble
  have HNx := Aside0.mk hnx
  have q1 : IntKind.i64.wrap ((l.length : Int) + 1) = (l.length : Int) + 1 := IntWalk.i64_in _ (by omega)
  have b1 : decide ((l.length : Int) + 1 > fr) = false := decide_eq_false (by have := hm.1; omega)
  have b2 : decide (nx > 1099511627776) = false := decide_eq_false (by have := hm.2; omega)
  have H := Aside0.mk h
  have HW := Aside0.mk hw
  have HBs := Aside0.mk hB
  have HNl := Aside0.mk hN
  have HM := Aside0.mk hm
  clear hc hr h hm hfr hnx hw hB hN hbl hble
  unfold ptr at *
  go_enter Try.func11, Try.ntmps11
  go_wp2_with fail
  refine HCk.out.mono ?_
  rintro e w1 ⟨rfl, hB⟩
  have B1 := Aside0.mk hB
  clear hB HCk
  go_wp2_with fail
  refine (HF.out _ B1.out).mono ?_
  rintro e w2 ⟨rfl, hB⟩
  have B2 := Aside0.mk (B1.out.trans (hB.mono B1.out.size))
  clear hB
  go_wp2_with fail
  refine (HN.out _ B2.out).mono ?_
  rintro e w3 ⟨rfl, hB⟩
  have B3 := Aside0.mk (B2.out.trans (hB.mono B2.out.size))
  clear hB
  go_wp2_with fail
  refine (HN.out _ B3.out).mono ?_
  rintro e w4 ⟨rfl, hB⟩
  have B4 := Aside0.mk (B3.out.trans (hB.mono B3.out.size))
  clear hB
  go_wp2_with fail
  refine (HE.out _ B4.out).mono ?_
  rintro e w5 ⟨v5, rfl, hr, hB⟩
  obtain ⟨X, cx, rfl⟩ := own_slice hr
  have B5 := Aside0.mk (B4.out.trans (hB.mono B4.out.size))
  have X5 : Aside0 (Strs w5 X bl) := ⟨own_strs hr HBL.out.symm⟩
  clear hr hB
  go_upto_region 7 with fail
  have HC : Aside0 (∀ W, Below w.heap.size w W → W.cell? ⟨jb, 1, none⟩ = some (.int .i64 J.tail) ∧ W.cell? ⟨jb, 4, none⟩ = some (.slice Az J.sizes.length cz)) := ⟨fun W hb => ⟨(H.out.below hb).c1, (H.out.below hb).c4⟩⟩
  obtain ⟨sm, hsm⟩ : ∃ sm, sm = J.sizes.sum := ⟨_, rfl⟩
  rw [← hsm] at HU
  have HSm := Aside0.mk hsm
  have hsb : sm ≤ 255 := by have := HW.out.sml; omega
  have ht0 := HW.out.t0
  have ht1 : J.tail ≤ 255 := by have := HW.out.tr; have := HW.out.r255; omega
  have q2 : IntKind.i64.wrap (J.tail + (sm : Int)) = J.tail + (sm : Int) := IntWalk.i64_in _ (by omega)
  have B0 : Aside0 (Below w.heap.size w w5.drew) := ⟨below_drew1 B5.out⟩
  clear hsm b1 b2 q1
  go_cut [9] (fun v9 wc => v9 = .int .i64 (J.tail + (sm : Int)) ∧ Aside0 (Below w5.heap.size w5 wc))
  case first =>
    go_region_held3 (fun w' => w'.cell? ⟨jb, 1, none⟩ = some (.int .i64 J.tail) ∧ w'.cell? ⟨jb, 4, none⟩ = some (.slice Az J.sizes.length cz)) (first | exact HC.out _ B0.out | exact HC.out _ B6.out) (first
      | (go_at_call 32; refine (HU.out _ B0.out).mono ?_; rintro e w6 ⟨rfl, hB⟩; have B6 := Aside0.mk (B0.out.trans (hB.mono B0.out.size)); have B56 : Aside0 (Below w5.heap.size w5 w6) := ⟨(below_drew1 (Below.refl _ _)).trans hB⟩; clear hB))
    all_goals
      go_wp2_with fail
      go_meet
      case rel => exact ⟨rfl, B56⟩
  case rest =>
    obtain ⟨rfl, B56⟩ := hcut
    have B6 := Aside0.mk (B5.out.trans (B56.out.mono B5.out.size))
    have X6 := Aside0.mk (X5.out.below B56.out)
    clear B1 B2 B3 B4 B5 B0 B56 X5 HN HE HF HU
    go_upto_region 9 with fail
    obtain ⟨a, ha⟩ : ∃ a, a = J.tail + (sm : Int) := ⟨_, rfl⟩
    obtain ⟨r, hr⟩ : ∃ r, r = J.ring := ⟨_, rfl⟩
    have hws : Aside0 (wsJ J l = wsA r a bl) := ⟨by unfold wsJ; rw [ha, hr, HSm.out, HBe.out, HNx.out]⟩
    have c0 : Aside0 (∀ W, Below wc.heap.size wc W → W.cell? ⟨jb, 0, none⟩ = some (.int .i64 r)) := ⟨fun W hb => by rw [hr]; exact (H.out.below (B6.out.trans (hb.mono B6.out.size))).c0⟩
    have ha0 : 0 ≤ a := by omega
    have ha1 : a ≤ 510 := by omega
    have hr0 : ¬ r = 0 := by have := HW.out.r7; omega
    have hr7 : 0 < r := by have := HW.out.r7; omega
    have hr8 : r ≤ 255 := by have := HW.out.r255; omega
    have hNn : N ≤ 49 := by have := HNl.out; omega
    rw [← ha]
    have HA := Aside0.mk ha
    have HR := Aside0.mk hr
    clear HC q2 hsb ht0 ht1 hr ha
    go_wp2_with fail
    go_loopw [10, 50] (fun v10 v50 wr => ∃ i : Nat, i ≤ N ∧ v50 = .int .i64 (i : Int) ∧ Aside0 (wr.ownsRow wc.heap.size 42 2 v10 i (cv ((wsA r a bl).take i))) ∧ Aside0 (Below wc.heap.size wc wr)) (fun _ x _ => N - (intOf x).toNat)
    case atStart => exact ⟨0, by omega, rfl, ⟨own_nil _ _ _ _⟩, ⟨Below.refl _ _⟩⟩
    case round =>
      obtain ⟨i, hi, rfl, HRw, HBr⟩ := hrel
      by_cases hlt : i < N
      · obtain ⟨ad, rfl, cb⟩ := (X6.out.below HBr.out) i (by rw [HBL.out]; exact hlt)
        have hT := wsA_take r a bl i (by rw [HBL.out]; exact hlt)
        generalize bl[i]'(by rw [HBL.out]; exact hlt) = s at cb hT
        have HT := Aside0.mk hT
        have cr := c0.out _ HBr.out
        have hm := Int.emod_lt_of_pos (a + (i : Int)) hr7
        have hm0 := Int.emod_nonneg (a + (i : Int)) hr0
        have q1 : IntKind.i64.wrap (a + (i : Int)) = a + (i : Int) := IntWalk.i64_in _ (by omega)
        have q2 : IntKind.i64.wrap ((a + (i : Int)) % r + 1) = (a + (i : Int)) % r + 1 := IntWalk.i64_in _ (by omega)
        clear hT
        have hml : (i + 1) * 24 ≤ 140737488355328 := by omega
        go_wp2_with (at_builtin; refine print_append_cells wc.heap.size rfl (.tmp 55) (.tmp 67) 34 42 (.agg #[.int .i64 0, .string ⟨#[]⟩]) 2 24 rfl Try.underlying34 infoW rfl (by decide) (by decide) _ _ _ [.int .i64 ((a + (i : Int)) % r + 1), .string s] rfl rfl rfl (by intro u hu; simp at hu; rcases hu with rfl | rfl <;> rfl) HRw.out HBr.out HBr.out.size hml ?_; intro v8 w8 hr8 hb8 _ _; have R8 := Aside0.mk hr8; have B8 := Aside0.mk hb8; clear hr8 hb8)
        go_roundw
        case rel => exact ⟨i + 1, by omega, by simp, ⟨by rw [HT.out, cv_append]; exact R8.out⟩, B8⟩
        case measure => simp [intOf]; omega
      · obtain rfl : i = N := by omega
        have hR2 := HRw.out
        rw [List.take_of_length_le (by rw [wsA_length, HBL.out]; exact Nat.le_refl _), ← hws.out] at hR2
        obtain ⟨Y, cy, rfl⟩ := own_slice hR2
        have B9 := Aside0.mk (B6.out.trans (HBr.out.mono B6.out.size))
        have R9 := Aside0.mk (own_mono hR2 B6.out.size)
        have HRb : Aside0 (∀ k, (Value.slice Y i cy).ownBlock = some k → wc.heap.size ≤ k) := ⟨fun k hk => own_base hR2 k hk⟩
        have H9 := Aside0.mk (H.out.below B9.out)
        have HBw : Aside0 (B ≤ wr.heap.size) := ⟨Nat.le_trans HBs.out B9.out.size⟩
        have hsl : J.sizes.length ≤ 255 := HW.out.sml.2
        clear hR2 HRw c0 ha0 ha1 hr0 hr7 hr8
        have c4 := H9.out.c4
        have f4 := blk_frozen H9.out.blk 4
        go_upto_region 14 with fail
        have BA := Aside0.mk (below_alloc (Below.refl wr.heap.size wr) (.cells #[.int .i64 (i : Int)] 3))
        have HA9 := Aside0.mk (H9.out.below BA.out)
        have CA := Aside0.mk ((blk_cell (blk_new wr (.cells #[.int .i64 (i : Int)] 3)) 0).trans (Eq.refl (some (Value.int .i64 (i : Int)))))
        have SA : Aside0 ((wr.alloc (.cells #[.int .i64 (i : Int)] 3)).heap.size = wr.heap.size + 1) := ⟨by simp⟩
        have HK6 : Aside0 (∀ w6, (wr.alloc (.cells #[.int .i64 (i : Int)] 3)).grownBy w6 (Value.slice Az J.sizes.length cz).ownBlock → w6.heap[jb]? = some (.cells #[.int .i64 J.ring, .int .i64 J.tail, .int .i64 J.first, .int .i64 J.sealed, .slice Az J.sizes.length cz] 72 (0, 0))) := ⟨fun w6 hg => (hg.block jb (blk_lt HA9.out.blk) (fun e => H.out.ne e.symm)).trans HA9.out.blk⟩
        go_wp2_with (at_builtin; refine wpList_push rfl B (.tmp 74) (.tmp 77) 58 3 (.int .i64 0) 8 rfl Try.underlying58 infoI rfl _ _ (.int .i64 (i : Int)) ⟨wr.heap.size, 0, none⟩ 1 rfl rfl CA.out rfl HA9.out.row (by rw [sv_length]; simp only [maxLen]; omega) (by rw [sv_length]; omega) (by rw [SA.out]; have := HBw.out; omega) ?_; intro A6 n6 w6 hr6 hg6 ho6; have R6 := Aside0.mk hr6; have G6 := Aside0.mk hg6; have O6 := Aside0.mk ho6; have K6 := Aside0.mk (HK6.out w6 hg6); have f6 := blk_frozen K6.out 4; clear hr6 hg6 ho6; have c6 := (blk_cell K6.out 4).trans (Eq.refl (some (Value.slice Az J.sizes.length cz))))
        obtain ⟨v7, hv7⟩ : ∃ v7, v7 = Value.slice A6 ((sv J.sizes).length + 1) n6 := ⟨_, rfl⟩
        rw [← hv7] at R6 O6 ⊢
        have ne7 : v7.ownBlock ≠ some jb := by
          rcases O6.out with e | e
          · intro h2; exact H.out.ne (Eq.trans (Eq.symm e) h2)
          · rw [e, SA.out]
            intro h2
            have h3 := blk_lt H9.out.blk
            have := Option.some.inj h2
            omega
        have hlt0 : ∀ k, fp jb (Value.slice Az J.sizes.length cz) k → k < w.heap.size := fun k hk => H.out.lt hk
        have J7 : JIs B (w6.setCell ⟨jb, 4, none⟩ v7) jb v7 (pushJ J (l.length + 1)) := by
          refine ⟨blk_set K6.out 4 _, ?_, H.out.bd, ne7⟩
          have e : sv (pushJ J (l.length + 1)).sizes = sv J.sizes ++ [.int .i64 (i : Int)] := by rw [← HNl.out]; exact sv_push _ _
          rw [e]
          exact R6.out.step fun k hk => blk_set_ne 4 _ (fun e => ne7 (e ▸ hk))
        have F7 : Fr wr (w6.setCell ⟨jb, 4, none⟩ v7) (fp jb (Value.slice Az J.sizes.length cz)) :=
          ((Fr.of_below BA.out _).trans (Fr.of_grown G6.out (f := fp jb (Value.slice Az J.sizes.length cz)) (fun k hk => .inr hk)) (fun _ h => .inl h)).trans (Fr.set w6 jb 4 v7 (f := fp jb (Value.slice Az J.sizes.length cz)) (.inl rfl)) (fun _ h => .inl h)
        have R7 : (w6.setCell ⟨jb, 4, none⟩ v7).ownsRow w.heap.size 42 2 (Value.slice Y i cy) (wsJ J l).length (cv (wsJ J l)) := by
          have e : (wsJ J l).length = i := by rw [hws.out, wsA_length, HBL.out]
          rw [e]
          refine own_step R9.out fun k hk => F7.block k (own_lt R9.out k hk) (fun hf => ?_)
          have h1 := hlt0 k hf
          have h2 := HRb.out k hk
          have h3 := B6.out.size
          omega
        refine bodyPost_ret (v := .tuple #[.slice Y i cy, .int .i64 0]) (by simp [results, Try.results11, go_sem]) rfl ⟨_, _, rfl, R7, J7, (Fr.of_below B9.out _).trans F7 (fun _ h => .inl h), fun k hk => ?_, fun k hk hf => ?_⟩
        · rcases hk with rfl | hk
          · exact .inl (.inl rfl)
          · rcases O6.out with e | e
            · exact .inl (.inr (Eq.trans (Eq.symm e) hk))
            · rw [e, SA.out] at hk
              have := Option.some.inj hk
              have := B9.out.size
              exact .inr (by omega)
        · have h1 := own_lt R9.out k hk
          have h2 := HRb.out k hk
          have h3 := B6.out.size
          rcases hf with rfl | hf
          · have := hlt0 k (.inl rfl)
            omega
          · rcases O6.out with e | e
            · have := hlt0 k (.inr (Eq.trans (Eq.symm e) hf))
              omega
            · rw [e, SA.out] at hf
              have := Option.some.inj hf
              omega
theorem append_calls (h : JIs B w jb v J) (hw : JW J) (hB : B ≤ w.heap.size) (l : List Ch) (A : Option Addr) (c : Nat) (hc : Chs w A l) (hl : l.length ≤ 1125899906842624) :
    Calls Try.prog 11 #[ptr jb, .slice A l.length c] w (APost B jb v w (appJ J l)) := by
  unfold appJ
  by_cases hr : right l
  · rw [if_neg (fun e => e hr)]
    by_cases hm : room J l.length
    · rw [if_neg (fun e => e hm)]
      exact append_yes h hw hB l A c hc hr hm
    · rw [if_pos hm]
      refine (append_no2 h hw l A c hc hr hm).mono ?_
      rintro e w' ⟨rfl, hb⟩
      exact ⟨_, v, rfl, own_nil _ _ _ _, h.below hb, Fr.of_below hb _, fun _ hk => .inl hk, fun k hk => by cases hk⟩
  · rw [if_pos hr]
    refine (append_no1 h l A c hc hl hr).mono ?_
    rintro e w' ⟨rfl, hb⟩
    exact ⟨_, v, rfl, own_nil _ _ _ _, h.below hb, Fr.of_below hb _, fun _ hk => .inl hk, fun k hk => by cases hk⟩
end
end Go.Proofs.Ytlmnfnkjbgnklaa.Jrnl
end
