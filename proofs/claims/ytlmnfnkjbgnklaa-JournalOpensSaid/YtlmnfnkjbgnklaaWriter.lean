import Derived.Test.YtlmnfnkjbgnklaaProg
import Derived.Test.YtlmnfnkjbgnklaaWMore
import Derived.Test.YtlmnfnkjbgnklaaSumSpec
import Derived.Deep.RegionLawGrows
import Derived.Deep.RegionHeld3
import Derived.Outline
set_option linter.unusedVariables false
set_option linter.unusedSimpArgs false
namespace Go.Proofs.Ytlmnfnkjbgnklaa.Codec
open Go.RowKit Go.Proofs.YtlmnfnkjbgnklaaW.PrintWords Go.Proofs.YtlmnfnkjbgnklaaW.PrintLast Go.Proofs.YtlmnfnkjbgnklaaW.PrintMore

theorem info5 : (Try.prog.info? 5).map (fun i => (i.zero, i.size, i.bytes)) = some (some (.int .u8 0), 1, 1) := by kernel_rfl

/-- The writer at block g: the bytes that were written; its blocks are B or later. -/
def IsW (w : World) (B g : Nat) (xs : List Int) : Prop :=
  B ≤ g ∧ ∃ v, w.heap[g]? = some (.cells #[v] 104 (0, 0)) ∧ w.ownsRow B 5 1 v xs.length (nums .u8 xs)

open Go.Proofs.Ytlmnfnkjbgnklaa.Spec (le)

/-- All blocks but the writer's own, and but rows of bytes, are as they were. -/
def Kp (w w' : World) (g : Nat) : Prop := ∀ i o, i ≠ g → w.heap[i]? = some o → (∀ cs fr, o ≠ .cells cs 5 fr) → w'.heap[i]? = some o
theorem Kp.refl (w : World) (g : Nat) : Kp w w g := fun _ _ _ h _ => h
theorem Kp.trans {a b c : World} {g : Nat} (h : Kp a b g) (k : Kp b c g) : Kp a c g := fun i o hi ho ht => k i o hi (h i o hi ho ht) ht
theorem cell_w {w : World} {g : Nat} {v : Value} (h : w.heap[g]? = some (.cells #[v] 104 (0, 0))) : w.cell? ⟨g, 0, none⟩ = some v := by unfold World.cell?; rw [h]; rfl
theorem froz_w {w : World} {g : Nat} {v : Value} (h : w.heap[g]? = some (.cells #[v] 104 (0, 0))) : w.frozen? ⟨g, 0, none⟩ = false := by unfold World.frozen?; rw [h]; rfl
theorem keep_blk {W w1 : World} {B g n : Nat} {v : Value} {xs : List Value} (hb : W.heap[g]? = some (.cells #[v] 104 (0, 0))) (ho : W.ownsRow B 5 1 v n xs) (hg : W.grownBy w1 v.ownBlock) :
    w1.heap[g]? = some (.cells #[v] 104 (0, 0)) := by
  have hne : some g ≠ v.ownBlock := by
    rcases ho.2 with ⟨rfl, _⟩ | ⟨g', cap', cur', rfl, _, hh', _⟩
    · simp [Value.ownBlock]
    · intro e
      have : g = g' := by simpa [Value.ownBlock] using e
      subst this
      rw [hb] at hh'
      simp at hh'
  rw [hg.block g (Array.getElem?_eq_some_iff.1 hb).1 hne]
  exact hb

theorem le_succ (n : Int) (k : Nat) : le n (k + 1) = le n k ++ [IntKind.u8.wrap (n / 2 ^ (8 * (k : Int)).toNat)] := by
  unfold le
  rw [List.range_succ, List.map_append]
  congr 1

theorem le_length (n : Int) (k : Nat) : (le n k).length = k := by simp [le]

theorem isW_store {w wr w1 : World} {o : Obj} {B g g2 cap L k : Nat} {v : Value} {xs : List Int} {n : Int} (hBg : B ≤ g) (hBs : B ≤ wr.heap.size) (hB : Below B w wr)
    (ho : wr.ownsRow B 5 1 v (xs ++ le n k).length (nums .u8 (xs ++ le n k)))
    (hg : (wr.alloc o).drew.grownBy w1 v.ownBlock)
    (h1 : w1.ownsRow B 5 1 (.slice (some ⟨g2, 0, none⟩) ((xs ++ le n k).length + 1) cap) ((xs ++ le n k).length + 1) (nums .u8 (xs ++ le n k) ++ [.int .u8 (IntKind.u8.wrap (n / 2 ^ (8 * (k : Int)).toNat))]))
    (hb : w1.heap[g]? = some (.cells #[v] 104 (0, 0))) (hL : L = (xs ++ le n k).length) (hK : Kp w wr g) :
    Aside0 (IsW (w1.setCell ⟨g, 0, none⟩ (.slice (some ⟨g2, 0, none⟩) (L + 1) cap)) B g (xs ++ le n (k + 1))) ∧ Aside0 (Below B w (w1.setCell ⟨g, 0, none⟩ (.slice (some ⟨g2, 0, none⟩) (L + 1) cap))) ∧ Aside0 (Kp w (w1.setCell ⟨g, 0, none⟩ (.slice (some ⟨g2, 0, none⟩) (L + 1) cap)) g) := by
  subst hL
  refine ⟨⟨hBg, .slice (some ⟨g2, 0, none⟩) ((xs ++ le n k).length + 1) cap, by simpa using blk_set hb 0 (.slice (some ⟨g2, 0, none⟩) ((xs ++ le n k).length + 1) cap), ?_⟩, ⟨((((hB.alloc hBs o).drew).grown hg (by simp; omega) (own_base ho))).setCell hBg _⟩, ⟨fun i o' hi hio ht => ?_⟩⟩
  rotate_left
  · have h1' := hK i o' hi hio ht
    have hlt := (Array.getElem?_eq_some_iff.1 h1').1
    have hne : some i ≠ v.ownBlock := by
      rcases ho.2 with ⟨rfl, _⟩ | ⟨g', cap', cur', rfl, _, hh', _⟩
      · simp [Value.ownBlock]
      · intro e
        have : i = g' := by simpa [Value.ownBlock] using e
        subst this
        rw [h1'] at hh'
        exact ht _ _ (Option.some.inj hh')
    rw [Below.heap_setCell _ _ _ _ (by simpa using hi), hg.block i (by show i < (wr.alloc o).heap.size; simp; omega) hne]
    show (wr.alloc o).heap[i]? = _
    rw [Below.heap_alloc wr o i hlt]
    exact h1'
  have hne : some g ≠ (Value.slice (some ⟨g2, 0, none⟩) ((xs ++ le n k).length + 1) cap).ownBlock := by
    intro e
    have : g = g2 := by simpa [Value.ownBlock] using e
    subst this
    rcases h1.2 with ⟨h, _⟩ | ⟨g', cap', cur', h, _, hh', _⟩
    · simp at h
    · simp at h
      obtain ⟨rfl, rfl⟩ := h
      rw [hb] at hh'
      simp at hh'
  have h2 := h1.kept (w' := w1.setCell ⟨g, 0, none⟩ (.slice (some ⟨g2, 0, none⟩) ((xs ++ le n k).length + 1) cap)) (row := some g) ⟨rfl, rfl, rfl, by simp [World.setCell], fun i hi hne => by rw [Below.heap_setCell]; simpa using fun h => hne (by rw [h])⟩ (.inr (fun e => hne e.symm))
  rw [le_succ]
  have e1 : (xs ++ (le n k ++ [IntKind.u8.wrap (n / 2 ^ (8 * (k : Int)).toNat)])).length = (xs ++ le n k).length + 1 := by simp; omega
  have e2 : nums .u8 (xs ++ (le n k ++ [IntKind.u8.wrap (n / 2 ^ (8 * (k : Int)).toNat)])) = nums .u8 (xs ++ le n k) ++ [.int .u8 (IntKind.u8.wrap (n / 2 ^ (8 * (k : Int)).toNat))] := by simp [nums]
  rw [e1, e2]
  exact h2

set_option maxHeartbeats 800000 in
set_option maxRecDepth 100000 in
theorem fixed_1 (n : Int) (B g : Nat) (xs : List Int) (w : World) (h : IsW w B g xs) (hl : xs.length ≤ 1000000) (h0 : 0 ≤ n) (h1 : n < 256) :
    Calls Try.prog 36 #[.pointer (some ⟨g, 0, none⟩), .int .i64 n, .int .i64 1] w fun e w' => e = .returned (.int .i64 0) ∧ IsW w' B g (xs ++ le n 1) ∧ Below B w w' ∧ Kp w w' g := by
  have hu := Try.underlying81
  have hu' := Try.underlying104
  have hq2 : (n / 256 != 0) = false := by
    have : n / 256 = 0 := by omega
    simp [this]
  have H := Aside0.mk h
  clear h
  go_enter Try.func36, Try.ntmps36
  go_wp2
  go_loopw [31] (fun c wr => ∃ k : Nat, k ≤ 1 ∧ c = .int .i64 k ∧ Aside0 (IsW wr B g (xs ++ le n k)) ∧ Aside0 (Below B w wr) ∧ Aside0 (Kp w wr g)) (fun c _ => 1 - (intOf c).toNat)
  case atStart => exact ⟨0, by omega, rfl, ⟨by simpa [le] using H.out⟩, ⟨Below.refl _ _⟩, ⟨Kp.refl _ _⟩⟩
  case round =>
    obtain ⟨k, hk, rfl, HI, HB, HK⟩ := hrel
    by_cases hlt : k < 1
    · obtain ⟨hBg, v, hb, hown⟩ := HI.out
      have hc := cell_w hb
      have hf := froz_w hb
      obtain ⟨i0, hi, hz0, hz1, hz2⟩ := info_parts info5
      have hw8 : IntKind.i64.wrap (8 * (k : Int)) = 8 * (k : Int) := IntWalk.i64_in _ (by omega)
      have hy0 : 0 ≤ 8 * (k : Int) := by omega
      have hy1 : 8 * (k : Int) ≤ 64 := by omega
      have hlen : (xs ++ le n k).length ≤ 1000008 := by simp [le]; omega
      go_wp2
      have hb1 : ∀ o, (wr.alloc o).drew.heap[g]? = some (.cells #[v] 104 (0, 0)) := fun o => (Below.heap_alloc wr o g (Array.getElem?_eq_some_iff.1 hb).1).trans hb
      have hBs : B ≤ wr.heap.size := by have := (Array.getElem?_eq_some_iff.1 hb).1; omega
      have hca : ∀ o, (wr.alloc o).cell? ⟨g, 0, none⟩ = some v := fun o => cell_w (w := (wr.alloc o).drew) (hb1 o)
      have HB1 := Aside0.mk hb1
      have HO := Aside0.mk hown
      clear hb1 hown
      go_region_law (refine step_append_lies _ rfl (.tmp 38) (.tmp 44) 100 rfl B 5 i0 (.int .u8 0) 1 1 Try.underlying100 hi hz0 hz1 hz2 rfl (by decide) v _ _ rfl ((HO.out.alloc _).drew) ⟨wr.heap.size, 0, none⟩ 1 1 [_] rfl rfl (cell_one_new _ _ _) (by simp [Value.oneCell']) (by omega) (by simp only [maxLen]; omega) (by omega) (by simp; omega) _ rfl ?_; intro g2 cap w1 hown1 hgrow1 hat hlt; have hb2 := keep_blk (HB1.out _) ((HO.out.alloc _).drew) hgrow1; have hc1 := cell_w hb2; have hf1 := froz_w hb2; have A1 := Aside0.mk hown1; have A2 := Aside0.mk hgrow1; have A3 := Aside0.mk hat; have A4 := Aside0.mk hb2; clear hown1 hgrow1 hat hb2)
      all_goals
        have R := isW_store (w := w) hBg hBs HB.out HO.out A2.out A1.out A4.out (L := xs.length + (le n k).length) (by simp) HK.out
        clear A1 A2 A3 A4 HO HB1 hca hb HI HB H HK
        obtain ⟨R1, R2, R3⟩ := R
        go_wp2
        go_roundw
        case rel => exact ⟨k + 1, by omega, by go_num, R1, R2, R3⟩
        case measure => simp [intOf]; omega
    · obtain rfl : k = 1 := by omega
      go_wp2
      go_ret
      exact ⟨rfl, HI.out, HB.out, HK.out⟩

set_option maxHeartbeats 800000 in
set_option maxRecDepth 100000 in
theorem fixed_2 (n : Int) (B g : Nat) (xs : List Int) (w : World) (h : IsW w B g xs) (hl : xs.length ≤ 1000000) (h0 : 0 ≤ n) (h1 : n < 65536) :
    Calls Try.prog 36 #[.pointer (some ⟨g, 0, none⟩), .int .i64 n, .int .i64 2] w fun e w' => e = .returned (.int .i64 0) ∧ IsW w' B g (xs ++ le n 2) ∧ Below B w w' ∧ Kp w w' g := by
  have hu := Try.underlying81
  have hu' := Try.underlying104
  have hq2 : (n / 65536 != 0) = false := by
    have : n / 65536 = 0 := by omega
    simp [this]
  have H := Aside0.mk h
  clear h
  go_enter Try.func36, Try.ntmps36
  go_wp2
  go_loopw [31] (fun c wr => ∃ k : Nat, k ≤ 2 ∧ c = .int .i64 k ∧ Aside0 (IsW wr B g (xs ++ le n k)) ∧ Aside0 (Below B w wr) ∧ Aside0 (Kp w wr g)) (fun c _ => 2 - (intOf c).toNat)
  case atStart => exact ⟨0, by omega, rfl, ⟨by simpa [le] using H.out⟩, ⟨Below.refl _ _⟩, ⟨Kp.refl _ _⟩⟩
  case round =>
    obtain ⟨k, hk, rfl, HI, HB, HK⟩ := hrel
    by_cases hlt : k < 2
    · obtain ⟨hBg, v, hb, hown⟩ := HI.out
      have hc := cell_w hb
      have hf := froz_w hb
      obtain ⟨i0, hi, hz0, hz1, hz2⟩ := info_parts info5
      have hw8 : IntKind.i64.wrap (8 * (k : Int)) = 8 * (k : Int) := IntWalk.i64_in _ (by omega)
      have hy0 : 0 ≤ 8 * (k : Int) := by omega
      have hy1 : 8 * (k : Int) ≤ 64 := by omega
      have hlen : (xs ++ le n k).length ≤ 1000008 := by simp [le]; omega
      go_wp2
      have hb1 : ∀ o, (wr.alloc o).drew.heap[g]? = some (.cells #[v] 104 (0, 0)) := fun o => (Below.heap_alloc wr o g (Array.getElem?_eq_some_iff.1 hb).1).trans hb
      have hBs : B ≤ wr.heap.size := by have := (Array.getElem?_eq_some_iff.1 hb).1; omega
      have hca : ∀ o, (wr.alloc o).cell? ⟨g, 0, none⟩ = some v := fun o => cell_w (w := (wr.alloc o).drew) (hb1 o)
      have HB1 := Aside0.mk hb1
      have HO := Aside0.mk hown
      clear hb1 hown
      go_region_law (refine step_append_lies _ rfl (.tmp 38) (.tmp 44) 100 rfl B 5 i0 (.int .u8 0) 1 1 Try.underlying100 hi hz0 hz1 hz2 rfl (by decide) v _ _ rfl ((HO.out.alloc _).drew) ⟨wr.heap.size, 0, none⟩ 1 1 [_] rfl rfl (cell_one_new _ _ _) (by simp [Value.oneCell']) (by omega) (by simp only [maxLen]; omega) (by omega) (by simp; omega) _ rfl ?_; intro g2 cap w1 hown1 hgrow1 hat hlt; have hb2 := keep_blk (HB1.out _) ((HO.out.alloc _).drew) hgrow1; have hc1 := cell_w hb2; have hf1 := froz_w hb2; have A1 := Aside0.mk hown1; have A2 := Aside0.mk hgrow1; have A3 := Aside0.mk hat; have A4 := Aside0.mk hb2; clear hown1 hgrow1 hat hb2)
      all_goals
        have R := isW_store (w := w) hBg hBs HB.out HO.out A2.out A1.out A4.out (L := xs.length + (le n k).length) (by simp) HK.out
        clear A1 A2 A3 A4 HO HB1 hca hb HI HB H HK
        obtain ⟨R1, R2, R3⟩ := R
        go_wp2
        go_roundw
        case rel => exact ⟨k + 1, by omega, by go_num, R1, R2, R3⟩
        case measure => simp [intOf]; omega
    · obtain rfl : k = 2 := by omega
      go_wp2
      go_ret
      exact ⟨rfl, HI.out, HB.out, HK.out⟩

set_option maxHeartbeats 800000 in
set_option maxRecDepth 100000 in
theorem fixed_4 (n : Int) (B g : Nat) (xs : List Int) (w : World) (h : IsW w B g xs) (hl : xs.length ≤ 1000000) (h0 : 0 ≤ n) (h1 : n < 4294967296) :
    Calls Try.prog 36 #[.pointer (some ⟨g, 0, none⟩), .int .i64 n, .int .i64 4] w fun e w' => e = .returned (.int .i64 0) ∧ IsW w' B g (xs ++ le n 4) ∧ Below B w w' ∧ Kp w w' g := by
  have hu := Try.underlying81
  have hu' := Try.underlying104
  have hq2 : (n / 4294967296 != 0) = false := by
    have : n / 4294967296 = 0 := by omega
    simp [this]
  have H := Aside0.mk h
  clear h
  go_enter Try.func36, Try.ntmps36
  go_wp2
  go_loopw [31] (fun c wr => ∃ k : Nat, k ≤ 4 ∧ c = .int .i64 k ∧ Aside0 (IsW wr B g (xs ++ le n k)) ∧ Aside0 (Below B w wr) ∧ Aside0 (Kp w wr g)) (fun c _ => 4 - (intOf c).toNat)
  case atStart => exact ⟨0, by omega, rfl, ⟨by simpa [le] using H.out⟩, ⟨Below.refl _ _⟩, ⟨Kp.refl _ _⟩⟩
  case round =>
    obtain ⟨k, hk, rfl, HI, HB, HK⟩ := hrel
    by_cases hlt : k < 4
    · obtain ⟨hBg, v, hb, hown⟩ := HI.out
      have hc := cell_w hb
      have hf := froz_w hb
      obtain ⟨i0, hi, hz0, hz1, hz2⟩ := info_parts info5
      have hw8 : IntKind.i64.wrap (8 * (k : Int)) = 8 * (k : Int) := IntWalk.i64_in _ (by omega)
      have hy0 : 0 ≤ 8 * (k : Int) := by omega
      have hy1 : 8 * (k : Int) ≤ 64 := by omega
      have hlen : (xs ++ le n k).length ≤ 1000008 := by simp [le]; omega
      go_wp2
      have hb1 : ∀ o, (wr.alloc o).drew.heap[g]? = some (.cells #[v] 104 (0, 0)) := fun o => (Below.heap_alloc wr o g (Array.getElem?_eq_some_iff.1 hb).1).trans hb
      have hBs : B ≤ wr.heap.size := by have := (Array.getElem?_eq_some_iff.1 hb).1; omega
      have hca : ∀ o, (wr.alloc o).cell? ⟨g, 0, none⟩ = some v := fun o => cell_w (w := (wr.alloc o).drew) (hb1 o)
      have HB1 := Aside0.mk hb1
      have HO := Aside0.mk hown
      clear hb1 hown
      go_region_law (refine step_append_lies _ rfl (.tmp 38) (.tmp 44) 100 rfl B 5 i0 (.int .u8 0) 1 1 Try.underlying100 hi hz0 hz1 hz2 rfl (by decide) v _ _ rfl ((HO.out.alloc _).drew) ⟨wr.heap.size, 0, none⟩ 1 1 [_] rfl rfl (cell_one_new _ _ _) (by simp [Value.oneCell']) (by omega) (by simp only [maxLen]; omega) (by omega) (by simp; omega) _ rfl ?_; intro g2 cap w1 hown1 hgrow1 hat hlt; have hb2 := keep_blk (HB1.out _) ((HO.out.alloc _).drew) hgrow1; have hc1 := cell_w hb2; have hf1 := froz_w hb2; have A1 := Aside0.mk hown1; have A2 := Aside0.mk hgrow1; have A3 := Aside0.mk hat; have A4 := Aside0.mk hb2; clear hown1 hgrow1 hat hb2)
      all_goals
        have R := isW_store (w := w) hBg hBs HB.out HO.out A2.out A1.out A4.out (L := xs.length + (le n k).length) (by simp) HK.out
        clear A1 A2 A3 A4 HO HB1 hca hb HI HB H HK
        obtain ⟨R1, R2, R3⟩ := R
        go_wp2
        go_roundw
        case rel => exact ⟨k + 1, by omega, by go_num, R1, R2, R3⟩
        case measure => simp [intOf]; omega
    · obtain rfl : k = 4 := by omega
      go_wp2
      go_ret
      exact ⟨rfl, HI.out, HB.out, HK.out⟩

set_option maxHeartbeats 800000 in
set_option maxRecDepth 100000 in
theorem fixed_8 (n : Int) (B g : Nat) (xs : List Int) (w : World) (h : IsW w B g xs) (hl : xs.length ≤ 1000000) (h0 : 0 ≤ n) (h1 : n < 9223372036854775808) :
    Calls Try.prog 36 #[.pointer (some ⟨g, 0, none⟩), .int .i64 n, .int .i64 8] w fun e w' => e = .returned (.int .i64 0) ∧ IsW w' B g (xs ++ le n 8) ∧ Below B w w' ∧ Kp w w' g := by
  have hu := Try.underlying81
  have hu' := Try.underlying104
  have H := Aside0.mk h
  clear h
  go_enter Try.func36, Try.ntmps36
  go_wp2
  go_loopw [31] (fun c wr => ∃ k : Nat, k ≤ 8 ∧ c = .int .i64 k ∧ Aside0 (IsW wr B g (xs ++ le n k)) ∧ Aside0 (Below B w wr) ∧ Aside0 (Kp w wr g)) (fun c _ => 8 - (intOf c).toNat)
  case atStart => exact ⟨0, by omega, rfl, ⟨by simpa [le] using H.out⟩, ⟨Below.refl _ _⟩, ⟨Kp.refl _ _⟩⟩
  case round =>
    obtain ⟨k, hk, rfl, HI, HB, HK⟩ := hrel
    by_cases hlt : k < 8
    · obtain ⟨hBg, v, hb, hown⟩ := HI.out
      have hc := cell_w hb
      have hf := froz_w hb
      obtain ⟨i0, hi, hz0, hz1, hz2⟩ := info_parts info5
      have hw8 : IntKind.i64.wrap (8 * (k : Int)) = 8 * (k : Int) := IntWalk.i64_in _ (by omega)
      have hy0 : 0 ≤ 8 * (k : Int) := by omega
      have hy1 : 8 * (k : Int) ≤ 64 := by omega
      have hlen : (xs ++ le n k).length ≤ 1000008 := by simp [le]; omega
      go_wp2
      have hb1 : ∀ o, (wr.alloc o).drew.heap[g]? = some (.cells #[v] 104 (0, 0)) := fun o => (Below.heap_alloc wr o g (Array.getElem?_eq_some_iff.1 hb).1).trans hb
      have hBs : B ≤ wr.heap.size := by have := (Array.getElem?_eq_some_iff.1 hb).1; omega
      have hca : ∀ o, (wr.alloc o).cell? ⟨g, 0, none⟩ = some v := fun o => cell_w (w := (wr.alloc o).drew) (hb1 o)
      have HB1 := Aside0.mk hb1
      have HO := Aside0.mk hown
      clear hb1 hown
      go_region_law (refine step_append_lies _ rfl (.tmp 38) (.tmp 44) 100 rfl B 5 i0 (.int .u8 0) 1 1 Try.underlying100 hi hz0 hz1 hz2 rfl (by decide) v _ _ rfl ((HO.out.alloc _).drew) ⟨wr.heap.size, 0, none⟩ 1 1 [_] rfl rfl (cell_one_new _ _ _) (by simp [Value.oneCell']) (by omega) (by simp only [maxLen]; omega) (by omega) (by simp; omega) _ rfl ?_; intro g2 cap w1 hown1 hgrow1 hat hlt; have hb2 := keep_blk (HB1.out _) ((HO.out.alloc _).drew) hgrow1; have hc1 := cell_w hb2; have hf1 := froz_w hb2; have A1 := Aside0.mk hown1; have A2 := Aside0.mk hgrow1; have A3 := Aside0.mk hat; have A4 := Aside0.mk hb2; clear hown1 hgrow1 hat hb2)
      all_goals
        have R := isW_store (w := w) hBg hBs HB.out HO.out A2.out A1.out A4.out (L := xs.length + (le n k).length) (by simp) HK.out
        clear A1 A2 A3 A4 HO HB1 hca hb HI HB H HK
        obtain ⟨R1, R2, R3⟩ := R
        go_wp2
        go_roundw
        case rel => exact ⟨k + 1, by omega, by go_num, R1, R2, R3⟩
        case measure => simp [intOf]; omega
    · obtain rfl : k = 8 := by omega
      go_wp2
      go_ret
      exact ⟨rfl, HI.out, HB.out, HK.out⟩

theorem IsW.below {w w' : World} {B g : Nat} {xs : List Int} (h : IsW w B g xs) (hb : Below w.heap.size w w') : IsW w' B g xs := by
  obtain ⟨hg, v, h1, h2⟩ := h
  exact ⟨hg, v, (hb.block g (Array.getElem?_eq_some_iff.1 h1).1).trans h1, pw_own_below h2 hb⟩
theorem IsW.alloc {w : World} {B g : Nat} {xs : List Int} (h : IsW w B g xs) (o : Obj) : IsW (w.alloc o) B g xs := h.below (below_alloc (Below.refl _ _) o)
theorem IsW.lt {w : World} {B g : Nat} {xs : List Int} (h : IsW w B g xs) : g < w.heap.size := by
  obtain ⟨hg, v, h1, h2⟩ := h
  exact (Array.getElem?_eq_some_iff.1 h1).1

set_option maxRecDepth 100000 in
theorem new_any (w : World) :
    Calls Try.prog 35 #[] w fun e w' => ∃ g : Nat, e = .returned (.pointer (some ⟨g, 0, none⟩)) ∧ IsW w' w.heap.size g [] ∧ Below w.heap.size w w' := by
  have hu' := Try.underlying104
  go_enter Try.func35, Try.ntmps35
  go_wp2
  go_ret
  refine ⟨w.heap.size, rfl, ⟨Nat.le_refl _, .slice none 0 0, by simpa using heap_alloc_new w _, own_nil _ _ _ _⟩, (Below.refl _ _).alloc (Nat.le_refl _) _⟩

set_option maxRecDepth 100000 in
theorem out_any (B g : Nat) (xs : List Int) (w : World) (h : IsW w B g xs) :
    Calls Try.prog 38 #[.pointer (some ⟨g, 0, none⟩)] w fun e w' => e = .returned (.string (strOfNums xs)) ∧ w = w' := by
  have hu := Try.underlying81
  have hu' := Try.underlying104
  obtain ⟨hBg, v, hb, ho⟩ := h
  have hc := cell_w hb
  have hr := own_string (P := Try.prog) Try.underlying100 Try.underlying5 Try.underlying9 ho
  clear hb ho
  go_enter Try.func38, Try.ntmps38
  go_wp2
  go_ret
  exact ⟨rfl, rfl⟩
end Go.Proofs.Ytlmnfnkjbgnklaa.Codec
