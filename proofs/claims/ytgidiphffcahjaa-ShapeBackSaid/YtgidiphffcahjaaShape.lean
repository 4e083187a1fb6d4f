/- The contracts of the functions of shapes, in plain words. -/
import Derived.Test.YtgidiphffcahjaaRead
import Derived.Outline
set_option linter.unusedVariables false
set_option linter.unusedSimpArgs false
namespace Go.Proofs.Ytgidiphffcahjaa.C
open Go.RowKit Go.Proofs.YtgidiphffcahjaaW.PrintWords Go.Proofs.YtgidiphffcahjaaW.PrintLast Go.Proofs.Ytgidiphffcahjaa.Spec Go.Proofs.Ytgidiphffcahjaa.Ev

def shapeR (b j i : Int) : Prop := 16 ≤ b ∧ b ≤ 1024 ∧ 8 ≤ j ∧ j ≤ 256 ∧ 1 ≤ i ∧ i ≤ 64 ∧ 4 ≤ b - (2 + j + (i + 3) / 4)
instance (b j i : Int) : Decidable (shapeR b j i) := by unfold shapeR; infer_instance
def ofR (b j i : Int) : Int × Int × Int × Int × Int × Int := if shapeR b j i then (1, 1 + j, 2 + j, 2 + j + (i + 3) / 4, b - (2 + j + (i + 3) / 4), 0) else (0, 0, 0, 0, 0, 60)
def checkR (b j i : Int) : Int := if shapeR b j i then 0 else 60

set_option maxRecDepth 100000 in
theorem in_yes (a b c : Int) (w : World) (h1 : b ≤ a) (h2 : a ≤ c) : Calls Try.prog 15 #[.int .i64 a, .int .i64 b, .int .i64 c] w fun e w' => e = .returned (.bool true) ∧ w = w' := by
  go_enter Try.func15, Try.ntmps15
  go_wp2
  go_ret
  exact ⟨by simp [h2], rfl⟩
set_option maxRecDepth 100000 in
theorem in_no (a b c : Int) (w : World) (h : a < b ∨ c < a) : Calls Try.prog 15 #[.int .i64 a, .int .i64 b, .int .i64 c] w fun e w' => e = .returned (.bool false) ∧ w = w' := by
  by_cases h1 : b ≤ a
  · have h2 : ¬ a ≤ c := by omega
    clear h
    go_enter Try.func15, Try.ntmps15
    go_wp2
    go_ret
    exact ⟨by simp [h2], rfl⟩
  · clear h
    go_enter Try.func15, Try.ntmps15
    go_wp2
    go_ret
    exact ⟨rfl, rfl⟩
set_option maxHeartbeats 800000 in
set_option maxRecDepth 100000 in
theorem of_no1 (b j i : Int) (w : World) (h : b < 16 ∨ 1024 < b) :
    Calls Try.prog 6 #[.agg #[.int .i64 b, .int .i64 j, .int .i64 i]] w fun e w' => e = .returned (.tuple #[.agg #[.int .i64 0, .int .i64 0, .int .i64 0, .int .i64 0, .int .i64 0], .int .i64 60]) ∧ Below w.heap.size w w' := by
  have hu := Try.underlying23
  have hu2 := Try.underlying25
  go_enter Try.func6, Try.ntmps6
  go_wp2_with fail
  refine (in_no b 16 1024 _ h).mono ?_
  rintro e w' ⟨rfl, rfl⟩
  go_wp2_with fail
  refine bodyPost_ret (v := .tuple #[.agg #[.int .i64 0, .int .i64 0, .int .i64 0, .int .i64 0, .int .i64 0], .int .i64 60]) (by simp [results, Try.results6, go_sem]) rfl ⟨rfl, ?_⟩
  exact (((Below.refl _ _).alloc (Nat.le_refl _) _).alloc (by simp) _)
set_option maxHeartbeats 800000 in
set_option maxRecDepth 100000 in
theorem of_no2 (b j i : Int) (w : World) (hb : 16 ≤ b) (hb2 : b ≤ 1024) (h : j < 8 ∨ 256 < j) :
    Calls Try.prog 6 #[.agg #[.int .i64 b, .int .i64 j, .int .i64 i]] w fun e w' => e = .returned (.tuple #[.agg #[.int .i64 0, .int .i64 0, .int .i64 0, .int .i64 0, .int .i64 0], .int .i64 60]) ∧ Below w.heap.size w w' := by
  have hu := Try.underlying23
  have hu2 := Try.underlying25
  go_enter Try.func6, Try.ntmps6
  go_wp2_with fail
  refine (in_yes b 16 1024 _ hb hb2).mono ?_
  rintro e w' ⟨rfl, rfl⟩
  go_wp2_with fail
  refine (in_no j 8 256 _ h).mono ?_
  rintro e w' ⟨rfl, rfl⟩
  go_wp2_with fail
  refine bodyPost_ret (v := .tuple #[.agg #[.int .i64 0, .int .i64 0, .int .i64 0, .int .i64 0, .int .i64 0], .int .i64 60]) (by simp [results, Try.results6, go_sem]) rfl ⟨rfl, ?_⟩
  exact (((Below.refl _ _).alloc (Nat.le_refl _) _).alloc (by simp) _)
set_option maxHeartbeats 800000 in
set_option maxRecDepth 100000 in
theorem of_no3 (b j i : Int) (w : World) (hb : 16 ≤ b) (hb2 : b ≤ 1024) (hj : 8 ≤ j) (hj2 : j ≤ 256) (h : i < 1 ∨ 64 < i) :
    Calls Try.prog 6 #[.agg #[.int .i64 b, .int .i64 j, .int .i64 i]] w fun e w' => e = .returned (.tuple #[.agg #[.int .i64 0, .int .i64 0, .int .i64 0, .int .i64 0, .int .i64 0], .int .i64 60]) ∧ Below w.heap.size w w' := by
  have hu := Try.underlying23
  have hu2 := Try.underlying25
  go_enter Try.func6, Try.ntmps6
  go_wp2_with fail
  refine (in_yes b 16 1024 _ hb hb2).mono ?_
  rintro e w' ⟨rfl, rfl⟩
  go_wp2_with fail
  refine (in_yes j 8 256 _ hj hj2).mono ?_
  rintro e w' ⟨rfl, rfl⟩
  go_wp2_with fail
  refine (in_no i 1 64 _ h).mono ?_
  rintro e w' ⟨rfl, rfl⟩
  go_wp2_with fail
  refine bodyPost_ret (v := .tuple #[.agg #[.int .i64 0, .int .i64 0, .int .i64 0, .int .i64 0, .int .i64 0], .int .i64 60]) (by simp [results, Try.results6, go_sem]) rfl ⟨rfl, ?_⟩
  exact (((Below.refl _ _).alloc (Nat.le_refl _) _).alloc (by simp) _)
set_option maxHeartbeats 800000 in
set_option maxRecDepth 100000 in
theorem of_no4 (b j i : Int) (w : World) (hb : 16 ≤ b) (hb2 : b ≤ 1024) (hj : 8 ≤ j) (hj2 : j ≤ 256) (hi : 1 ≤ i) (hi2 : i ≤ 64) (h : b - (2 + j + (i + 3) / 4) < 4) :
    Calls Try.prog 6 #[.agg #[.int .i64 b, .int .i64 j, .int .i64 i]] w fun e w' => e = .returned (.tuple #[.agg #[.int .i64 0, .int .i64 0, .int .i64 0, .int .i64 0, .int .i64 0], .int .i64 60]) ∧ Below w.heap.size w w' := by
  have hu := Try.underlying23
  have hu2 := Try.underlying25
  go_enter Try.func6, Try.ntmps6
  go_wp2_with fail
  refine (in_yes b 16 1024 _ hb hb2).mono ?_
  rintro e w' ⟨rfl, rfl⟩
  go_wp2_with fail
  refine (in_yes j 8 256 _ hj hj2).mono ?_
  rintro e w' ⟨rfl, rfl⟩
  go_wp2_with fail
  refine (in_yes i 1 64 _ hi hi2).mono ?_
  rintro e w' ⟨rfl, rfl⟩
  go_wp2_with fail
  refine bodyPost_ret (v := .tuple #[.agg #[.int .i64 0, .int .i64 0, .int .i64 0, .int .i64 0, .int .i64 0], .int .i64 60]) (by simp [results, Try.results6, go_sem]) rfl ⟨rfl, ?_⟩
  exact below_alloc (below_alloc (below_alloc (Below.refl _ _) _) _) _
set_option maxHeartbeats 800000 in
set_option maxRecDepth 100000 in
theorem of_yes (b j i : Int) (w : World) (hb : 16 ≤ b) (hb2 : b ≤ 1024) (hj : 8 ≤ j) (hj2 : j ≤ 256) (hi : 1 ≤ i) (hi2 : i ≤ 64) (h : 4 ≤ b - (2 + j + (i + 3) / 4)) :
    Calls Try.prog 6 #[.agg #[.int .i64 b, .int .i64 j, .int .i64 i]] w fun e w' => e = .returned (.tuple #[.agg #[.int .i64 1, .int .i64 (1 + j), .int .i64 (2 + j), .int .i64 (2 + j + (i + 3) / 4), .int .i64 (b - (2 + j + (i + 3) / 4))], .int .i64 0]) ∧ Below w.heap.size w w' := by
  have hu := Try.underlying23
  have hu2 := Try.underlying25
  go_enter Try.func6, Try.ntmps6
  go_wp2_with fail
  refine (in_yes b 16 1024 _ hb hb2).mono ?_
  rintro e w' ⟨rfl, rfl⟩
  go_wp2_with fail
  refine (in_yes j 8 256 _ hj hj2).mono ?_
  rintro e w' ⟨rfl, rfl⟩
  go_wp2_with fail
  refine (in_yes i 1 64 _ hi hi2).mono ?_
  rintro e w' ⟨rfl, rfl⟩
  go_wp2_with fail
  refine bodyPost_ret (v := .tuple #[.agg #[.int .i64 1, .int .i64 (1 + j), .int .i64 (2 + j), .int .i64 (2 + j + (i + 3) / 4), .int .i64 (b - (2 + j + (i + 3) / 4))], .int .i64 0]) (by simp [results, Try.results6, go_sem]) rfl ⟨rfl, ?_⟩
  exact below_alloc (below_alloc (below_alloc (Below.refl _ _) _) _) _

def shape_Of.f (b j i : Int) : Option (Int × Int × Int × Int × Int × Int) := some (ofR b j i)
def shape_Check.f (b j i : Int) : Option Int := some (checkR b j i)
theorem shape_Of.calls (a0_0 a0_1 a0_2 : Int) (r1 r2 r3 r4 r5 r6 : Int) (w : World) (h : shape_Of.f a0_0 a0_1 a0_2 = some (r1, r2, r3, r4, r5, r6)) :
    Calls Try.prog 6 #[.agg #[.int .i64 a0_0, .int .i64 a0_1, .int .i64 a0_2]] w fun e w' => e = .returned (.tuple #[.agg #[.int .i64 r1, .int .i64 r2, .int .i64 r3, .int .i64 r4, .int .i64 r5], .int .i64 r6]) ∧ Below w.heap.size w w' := by
  have h := Option.some.inj h
  unfold ofR at h
  by_cases hs : shapeR a0_0 a0_1 a0_2
  · rw [if_pos hs] at h
    simp only [Prod.mk.injEq] at h
    obtain ⟨rfl, rfl, rfl, rfl, rfl, rfl⟩ := h
    unfold shapeR at hs
    exact of_yes _ _ _ w hs.1 hs.2.1 hs.2.2.1 hs.2.2.2.1 hs.2.2.2.2.1 hs.2.2.2.2.2.1 hs.2.2.2.2.2.2
  · rw [if_neg hs] at h
    simp only [Prod.mk.injEq] at h
    obtain ⟨rfl, rfl, rfl, rfl, rfl, rfl⟩ := h
    unfold shapeR at hs
    by_cases hb : 16 ≤ a0_0 ∧ a0_0 ≤ 1024
    · by_cases hj : 8 ≤ a0_1 ∧ a0_1 ≤ 256
      · by_cases hi : 1 ≤ a0_2 ∧ a0_2 ≤ 64
        · exact of_no4 _ _ _ w hb.1 hb.2 hj.1 hj.2 hi.1 hi.2 (by omega)
        · exact of_no3 _ _ _ w hb.1 hb.2 hj.1 hj.2 (by omega)
      · exact of_no2 _ _ _ w hb.1 hb.2 (by omega)
    · exact of_no1 _ _ _ w (by omega)
set_option maxHeartbeats 800000 in
set_option maxRecDepth 100000 in
theorem shape_Check.calls (a0_0 a0_1 a0_2 : Int) (r : Int) (w : World) (h : shape_Check.f a0_0 a0_1 a0_2 = some r) :
    Calls Try.prog 8 #[.agg #[.int .i64 a0_0, .int .i64 a0_1, .int .i64 a0_2]] w fun e w' => e = .returned (.int .i64 r) ∧ Below w.heap.size w w' := by
  obtain rfl := Option.some.inj h
  clear h
  have hu := Try.underlying23
  have hu2 := Try.underlying25
  have H : ∃ r1 r2 r3 r4 r5, shape_Of.f a0_0 a0_1 a0_2 = some (r1, r2, r3, r4, r5, checkR a0_0 a0_1 a0_2) := by
    unfold shape_Of.f ofR checkR
    split
    · exact ⟨_, _, _, _, _, rfl⟩
    · exact ⟨_, _, _, _, _, rfl⟩
  obtain ⟨r1, r2, r3, r4, r5, H⟩ := H
  generalize checkR a0_0 a0_1 a0_2 = r at H ⊢
  have H := Aside0.mk H
  go_enter Try.func8, Try.ntmps8
  go_wp2_with fail
  refine (shape_Of.calls _ _ _ r1 r2 r3 r4 r5 r _ H.out).mono ?_
  rintro e w1 ⟨rfl, hB⟩
  have HB := Aside0.mk ((below_alloc (Below.refl w.heap.size w) _).trans (hB.mono (by simp)))
  clear hB
  go_wp2_with fail
  go_ret
  exact ⟨rfl, below_alloc HB.out _⟩

/-! The superblock -/
def cartS (b j i : Int) : ByteArray := (⟨#[99, 97, 114, 116]⟩ : ByteArray) ++ strOfNums (le b 2 ++ le j 2 ++ le i 2)
def superS (b j i : Int) : ByteArray × Int := if shapeR b j i then blockS (cartS b j i) else (⟨#[]⟩, 60)
theorem cartS_size (b j i : Int) : (cartS b j i).size = 10 := by
  unfold cartS
  rw [ByteArray.size_append, strOfNums_size, List.length_append, List.length_append, le_length, le_length, le_length]
  rfl
def three (b j i : Int) (k : Nat) : List Int := (if 0 < k then le b 2 else []) ++ (if 1 < k then le j 2 else []) ++ (if 2 < k then le i 2 else [])
def nth3 (b j i : Int) (k : Nat) : Int := if k = 0 then b else if k = 1 then j else i
theorem three_succ (b j i : Int) (k : Nat) (h : k < 3) : three b j i k ++ le (nth3 b j i k) 2 = three b j i (k + 1) := by
  unfold three nth3
  match k, h with
  | 0, _ => simp
  | 1, _ => simp
  | 2, _ => simp
set_option maxHeartbeats 800000 in
set_option maxRecDepth 100000 in
theorem super_no (b j i : Int) (w : World) (h : ¬ shapeR b j i) :
    Calls Try.prog 11 #[.agg #[.int .i64 b, .int .i64 j, .int .i64 i]] w fun e w' => e = .returned (.tuple #[.string ⟨#[]⟩, .int .i64 60]) ∧ Below w.heap.size w w' := by
  have hc : shape_Check.f b j i = some 60 := by unfold shape_Check.f checkR; rw [if_neg h]
  clear h
  have hu := Try.underlying23
  go_enter Try.func11, Try.ntmps11
  go_wp2_with fail
  refine (shape_Check.calls b j i 60 _ hc).mono ?_
  rintro e w1 ⟨rfl, hB⟩
  have HB := Aside0.mk (((Below.refl w.heap.size w).alloc (Nat.le_refl _) _).trans (hB.mono (by simp)))
  clear hB
  go_wp2_with fail
  go_ret2
  exact ⟨rfl, HB.out⟩

set_option maxHeartbeats 1600000 in
set_option maxRecDepth 100000 in
theorem super_yes (b j i : Int) (w : World) (h : shapeR b j i) :
    Calls Try.prog 11 #[.agg #[.int .i64 b, .int .i64 j, .int .i64 i]] w fun e w' => e = .returned (.tuple #[.string (blockS (cartS b j i)).1, .int .i64 (blockS (cartS b j i)).2]) ∧ Below w.heap.size w w' := by
  have hc : shape_Check.f b j i = some 0 := by unfold shape_Check.f checkR; rw [if_pos h]
  have hr : ∀ k, 0 ≤ nth3 b j i k ∧ nth3 b j i k < 65536 := by
    intro k
    unfold shapeR at h
    unfold nth3
    split
    · omega
    · split <;> omega
  have HR := Aside0.mk hr
  clear h hr
  have hu := Try.underlying23
  go_enter Try.func11, Try.ntmps11
  go_wp2_with fail
  refine (shape_Check.calls b j i 0 _ hc).mono ?_
  rintro e w1 ⟨rfl, hB⟩
  have hb1 : w1.heap[w.heap.size]? = some (.cells #[.int .i64 b, .int .i64 j, .int .i64 i] 23 (0, 0)) := (hB.block _ (by simp)).trans (by simpa using heap_alloc_new w _)
  have HB := Aside0.mk (((Below.refl w.heap.size w).alloc (Nat.le_refl _) _).trans (hB.mono (by simp)))
  clear hB
  have HB1 := Aside0.mk hb1
  clear hb1
  go_wp2_with fail
  refine (Codec.new_any _).mono ?_
  rintro e w2 ⟨g, rfl, hI, hB⟩
  have hb2 := (hB.block _ (Array.getElem?_eq_some_iff.1 HB1.out).1).trans HB1.out
  have c0 : w2.cell? ⟨w.heap.size, 0, none⟩ = some (.int .i64 b) := (blk_cell hb2 0).trans rfl
  have c1 : w2.cell? ⟨w.heap.size, 1, none⟩ = some (.int .i64 j) := (blk_cell hb2 1).trans rfl
  have c2 : w2.cell? ⟨w.heap.size, 2, none⟩ = some (.int .i64 i) := (blk_cell hb2 2).trans rfl
  have HW := Aside0.mk hI
  have HS1 := Aside0.mk HB.out.size
  have HB2 := Aside0.mk (HB.out.trans (hB.mono HB.out.size))
  clear hB hI hb2 HB HB1
  go_wp2_with fail
  go_loopw [22] (fun c wr => ∃ k : Nat, k ≤ 3 ∧ c = .int .i64 k ∧ Aside0 (Codec.IsW wr w1.heap.size g (three b j i k)) ∧ Aside0 (Below w.heap.size w wr) ∧ Aside0 (wr.heap[w2.heap.size]? = some (.cells #[.int .i64 b, .int .i64 j, .int .i64 i] 3 (0, 0)))) (fun c _ => 3 - (intOf c).toNat)
  case atStart =>
    exact ⟨0, by omega, rfl, ⟨by simpa [three] using HW.out.alloc _⟩, ⟨below_alloc HB2.out _⟩, ⟨by simpa using heap_alloc_new w2 _⟩⟩
  case round =>
    obtain ⟨k, hk, rfl, HI, HBr, HS⟩ := hrel
    clear c0 c1 c2
    by_cases hlt : k < 3
    · have hcell : wr.cell? ⟨w2.heap.size, k, none⟩ = some (.int .i64 (nth3 b j i k)) := by
        refine (blk_cell HS.out k).trans ?_
        unfold nth3
        match k, hlt with
        | 0, _ => rfl
        | 1, _ => rfl
        | 2, _ => rfl
      obtain ⟨n, hn⟩ : ∃ n, n = nth3 b j i k := ⟨_, rfl⟩
      rw [← hn] at hcell
      have hn0 := HR.out k
      rw [← hn] at hn0
      obtain ⟨hn1, hn2⟩ := hn0
      have HN := Aside0.mk hn
      clear hn
      go_wp2_with fail
      refine (Codec.fixed_2 n w1.heap.size g (three b j i k) wr HI.out ?_ hn1 hn2).mono ?_
      · unfold three
        split <;> split <;> split <;> simp [le_length]
      rintro e w3 ⟨rfl, hI3, hB3, hK3⟩
      have R1 := Aside0.mk hI3
      have R2 := Aside0.mk (HBr.out.trans (hB3.mono HS1.out))
      have R3 := Aside0.mk (hK3 _ _ (by have := HW.out.lt; omega) HS.out (by intro cs fr h; simp at h))
      clear hI3 hB3 hK3
      go_wp2
      go_roundw
      case rel => exact ⟨k + 1, by omega, by go_num, ⟨by rw [← three_succ b j i k hlt, ← HN.out]; exact R1.out⟩, R2, R3⟩
      case measure => simp [intOf]; omega
    · obtain rfl : k = 3 := by omega
      go_wp2_with fail
      refine (Codec.out_any _ g _ wr HI.out).mono ?_
      obtain ⟨L, hL⟩ : ∃ L, L = strOfNums (three b j i 3) := ⟨_, rfl⟩
      have hcs : (⟨#[99, 97, 114, 116]⟩ : ByteArray) ++ L = cartS b j i := by rw [hL]; rfl
      rw [← hL]
      have hLs : L.size ≤ 100 := by have h1 := cartS_size b j i; rw [← hcs, ByteArray.size_append] at h1; omega
      have hk := sum_Block.calls ((⟨#[99, 97, 114, 116]⟩ : ByteArray) ++ L) (blockS (cartS b j i)).1 (blockS (cartS b j i)).2 wr (by rw [hcs]; exact lim_ok _ (by rw [cartS_size]; omega))
      have HC := Aside0.mk hk
      clear hcs hk hL HI HS HR HW
      rintro e w3 ⟨rfl, rfl⟩
      go_wp2_with fail
      refine HC.out.mono ?_
      rintro e w4 ⟨rfl, hB4⟩
      have R2 := Aside0.mk (HBr.out.trans (hB4.mono HBr.out.size))
      clear hB4
      go_wp2
      go_ret2
      exact ⟨rfl, R2.out⟩
def shape_Super.f (b j i : Int) : Option (ByteArray × Int) := some (superS b j i)
theorem shape_Super.calls (a0_0 a0_1 a0_2 : Int) (r1 : ByteArray) (r2 : Int) (w : World) (h : shape_Super.f a0_0 a0_1 a0_2 = some (r1, r2)) :
    Calls Try.prog 11 #[.agg #[.int .i64 a0_0, .int .i64 a0_1, .int .i64 a0_2]] w fun e w' => e = .returned (.tuple #[.string r1, .int .i64 r2]) ∧ Below w.heap.size w w' := by
  have h := Option.some.inj h
  unfold superS at h
  by_cases hs : shapeR a0_0 a0_1 a0_2
  · rw [if_pos hs] at h
    have := super_yes a0_0 a0_1 a0_2 w hs
    rw [h] at this
    exact this
  · rw [if_neg hs] at h
    simp only [Prod.mk.injEq] at h
    obtain ⟨rfl, rfl⟩ := h
    exact super_no a0_0 a0_1 a0_2 w hs

/-! What a superblock says -/
def cutS (s p : ByteArray) : ByteArray × Bool := if p.size ≤ s.size ∧ s.extract 0 p.size = p then (s.extract p.size s.size, true) else (s, false)
def cart4 : ByteArray := ⟨#[99, 97, 114, 116]⟩
/-- The reader's state behind k numbers of two bytes; the number that is read next. -/
def rst (r : ByteArray) : Nat → ByteArray × Int
  | 0 => (r, 0)
  | k + 1 => ((readS (rst r k).1 (rst r k).2 2).2.2.1, (readS (rst r k).1 (rst r k).2 2).2.2.2)
def rnum (r : ByteArray) (k : Nat) : Int := (readS (rst r k).1 (rst r k).2 2).1
def sreadS (b : ByteArray) : Int × Int × Int × Int :=
  if (unblockS b).2 ≠ 0 ∨ (cutS (unblockS b).1 cart4).2 = false then (0, 0, 0, 60)
  else if endS (rst (cutS (unblockS b).1 cart4).1 3).1 (rst (cutS (unblockS b).1 cart4).1 3).2 ≠ 0 ∨ checkR (rnum (cutS (unblockS b).1 cart4).1 0) (rnum (cutS (unblockS b).1 cart4).1 1) (rnum (cutS (unblockS b).1 cart4).1 2) ≠ 0 then (0, 0, 0, 60)
  else (rnum (cutS (unblockS b).1 cart4).1 0, rnum (cutS (unblockS b).1 cart4).1 1, rnum (cutS (unblockS b).1 cart4).1 2, 0)
theorem cut_f (s p : ByteArray) : Ps.strings_CutPrefix.f s p = some (cutS s p) := by
  unfold Ps.strings_CutPrefix.f Ps.stringslite_CutPrefix.f Ps.stringslite_HasPrefix.f cutS
  by_cases h : p.size ≤ s.size
  · rw [if_pos (by omega), if_pos (by omega), if_pos (by omega), Int.toNat_natCast]
    simp only [Option.bind_some]
    by_cases hq : s.extract 0 p.size = p
    · have e : ((s.extract 0 p.size).toList == p.toList) = true := by rw [hq]; simp
      rw [e, if_pos rfl, if_pos (by omega), if_pos (by omega), if_pos ⟨h, hq⟩]
      rfl
    · have e : ((s.extract 0 p.size).toList == p.toList) = false := by
        rw [beq_eq_false_iff_ne]
        exact fun h => hq ((toList_eq_iff _ _).1 h)
      rw [e, if_neg (by simp), if_neg (fun h => hq h.2)]
      rfl
  · have h2 : ¬ (p.size ≤ s.size ∧ s.extract 0 p.size = p) := fun h' => h h'.1
    rw [if_neg (show ¬ (s.size : Int) ≥ (p.size : Int) by omega), if_neg h2]
    rfl
theorem cut_calls (s p : ByteArray) (w : World) :
    Calls Try.prog 24 #[.string s, .string p] w fun e w' => e = .returned (.tuple #[.string (cutS s p).1, .bool (cutS s p).2]) ∧ Drawn0 w w' :=
  Ps.strings_CutPrefix.calls s p _ _ w (by rw [cut_f])

end Go.Proofs.Ytgidiphffcahjaa.C
