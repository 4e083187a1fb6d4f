/- What a superblock says: the contract of shape.Read. -/
import Derived.Test.YtgidiphffcahjaaShape
set_option linter.unusedVariables false
set_option linter.unusedSimpArgs false
namespace Go.Proofs.Ytgidiphffcahjaa.C
open Go.RowKit Go.Proofs.YtgidiphffcahjaaW.PrintWords Go.Proofs.YtgidiphffcahjaaW.PrintLast Go.Proofs.Ytgidiphffcahjaa.Spec Go.Proofs.Ytgidiphffcahjaa.Ev
def ar3 (r : ByteArray) (k : Nat) : Array Value := #[.int .i64 (if 0 < k then rnum r 0 else 0), .int .i64 (if 1 < k then rnum r 1 else 0), .int .i64 (if 2 < k then rnum r 2 else 0)]
theorem ar3_set (r : ByteArray) (k : Nat) (h : k < 3) : (ar3 r k).setIfInBounds k (.int .i64 (rnum r k)) = ar3 r (k + 1) := by
  match k, h with
  | 0, _ => rfl
  | 1, _ => rfl
  | 2, _ => rfl
theorem ar3_get (r : ByteArray) (k : Nat) (h : k < 3) : (ar3 r k)[k]? = some (.int .i64 0) := by
  match k, h with
  | 0, _ => rfl
  | 1, _ => rfl
  | 2, _ => rfl

set_option maxHeartbeats 1600000 in
set_option maxRecDepth 100000 in
theorem read_no (b : ByteArray) (w : World) (hs : b.size ≤ 1125899906842624) (h : (unblockS b).2 ≠ 0 ∨ (cutS (unblockS b).1 cart4).2 = false) :
    Calls Try.prog 13 #[.string b] w fun e w' => e = .returned (.tuple #[.agg #[.int .i64 0, .int .i64 0, .int .i64 0], .int .i64 60]) ∧ Below w.heap.size w w' := by
  have hu := Try.underlying23
  have hk := sum_Unblock.calls b (unblockS b).1 (unblockS b).2
  have hk2 := cut_calls (unblockS b).1 cart4
  have HU := Aside0.mk (fun W => hk W (lim_ok _ hs))
  obtain ⟨t, e0, ht⟩ : ∃ t e0, unblockS b = (t, e0) := ⟨_, _, rfl⟩
  rw [ht] at HU hk2 h
  obtain ⟨r, ok, hr⟩ : ∃ r ok, cutS t cart4 = (r, ok) := ⟨_, _, rfl⟩
  simp only [hr] at hk2 h
  have HC := Aside0.mk hk2
  have hcase : (e0 != 0) = true ∨ (e0 = 0 ∧ ok = false) := by
    by_cases he : e0 = 0
    · right
      rcases h with h | h
      · exact absurd he h
      · exact ⟨he, h⟩
    · left
      simp [he]
  clear hk hk2 ht hr hs h
  rcases hcase with he | ⟨rfl, rfl⟩
  all_goals
    go_enter Try.func13, Try.ntmps13
    go_wp2_with fail
    refine (HU.out _).mono ?_
    rintro e w1 ⟨rfl, hB⟩
    have HB := Aside0.mk ((below_alloc (Below.refl w.heap.size w) _).trans (hB.mono (by simp)))
    have HB1 := Aside0.mk (blk_below (blk_new w _) hB)
    clear hB
    go_wp2_with fail
    refine (HC.out _).mono ?_
    rintro e w2 ⟨rfl, hD⟩
    have HB2 := Aside0.mk (blk_below HB1.out hD.below)
    have HB3 := Aside0.mk (HB.out.trans (hD.below.mono HB.out.size))
    clear hD HB HB1
    have c0 := (blk_cell HB2.out 0)
    have c1 := (blk_cell HB2.out 1)
    have c2 := (blk_cell HB2.out 2)
    have f0 := blk_frozen HB2.out 0
    have f1 := blk_frozen HB2.out 1
    have f2 := blk_frozen HB2.out 2
    simp only [List.getElem?_toArray, List.getElem?_cons_zero, List.getElem?_cons_succ] at c0 c1 c2
    go_wp2_with fail
    refine bodyPost_ret (v := .tuple #[.agg #[.int .i64 0, .int .i64 0, .int .i64 0], .int .i64 60]) (by simp [results, Try.results13, go_sem, c0, c1, c2]) rfl ⟨rfl, ?_⟩
    exact ((HB3.out.setCell (Nat.le_refl _) _).setCell (Nat.le_refl _) _).setCell (Nat.le_refl _) _

set_option maxHeartbeats 1600000 in
set_option maxRecDepth 100000 in
theorem read_yes (b t r : ByteArray) (w : World) (hs : b.size ≤ 1125899906842624) (ht : unblockS b = (t, 0)) (hr : cutS t cart4 = (r, true))
    (y0 y1 y2 y3 : Int) (hy : (if endS (rst r 3).1 (rst r 3).2 ≠ 0 ∨ checkR (rnum r 0) (rnum r 1) (rnum r 2) ≠ 0 then (0, 0, 0, 60) else (rnum r 0, rnum r 1, rnum r 2, 0)) = (y0, y1, y2, y3)) :
    Calls Try.prog 13 #[.string b] w fun e w' => e = .returned (.tuple #[.agg #[.int .i64 y0, .int .i64 y1, .int .i64 y2], .int .i64 y3]) ∧ Below w.heap.size w w' := by
  have hu := Try.underlying23
  have hu4 := Try.underlying53
  have hk := sum_Unblock.calls b (unblockS b).1 (unblockS b).2
  have hk2 := cut_calls t cart4
  have HU := Aside0.mk (fun W => hk W (lim_ok _ hs))
  rw [ht] at HU
  rw [hr] at hk2
  have HC := Aside0.mk hk2
  have HY := Aside0.mk hy
  clear hk hk2 ht hr hs hy
  go_enter Try.func13, Try.ntmps13
  go_wp2_with fail
  refine (HU.out _).mono ?_
  rintro e w1 ⟨rfl, hB⟩
  have HB := Aside0.mk ((below_alloc (Below.refl w.heap.size w) _).trans (hB.mono (by simp)))
  have HB1 := Aside0.mk (blk_below (blk_new w _) hB)
  clear hB
  go_wp2_with fail
  refine (HC.out _).mono ?_
  rintro e w2 ⟨rfl, hD⟩
  have HB2 := Aside0.mk (blk_below HB1.out hD.below)
  have HB3 := Aside0.mk (HB.out.trans (hD.below.mono HB.out.size))
  clear hD HB HB1
  go_wp2_with fail
  refine (Ps.codec_Of.calls r r 0 w _ (below_alloc HB3.out _) rfl).mono ?_
  rintro e w3 ⟨g, rfl, hI, hB, hB'⟩
  have HI := Aside0.mk hI
  have HB := Aside0.mk hB
  have HL := Aside0.mk HB3.out.size
  have Z := Aside0.mk (blk_below (blk_alloc HB2.out _) hB')
  have AR := Aside0.mk (blk_below (blk_new w2 _) hB')
  clear hI hB hB' HB2 HB3
  go_wp2_with fail
  go_loopw [31] (fun c wr => ∃ k : Nat, k ≤ 3 ∧ c = .int .i64 k ∧ Aside0 (Ps.IsS66 w wr g (rst r k).1 (rst r k).2) ∧ Aside0 (Below w.heap.size w wr) ∧ Aside0 (wr.heap[w.heap.size]? = some (.cells #[.int .i64 0, .int .i64 0, .int .i64 0] 23 (0, 0))) ∧ Aside0 (wr.heap[w2.heap.size]? = some (.cells (ar3 r k) 53 (0, 0)))) (fun c _ => 3 - (intOf c).toNat)
  case atStart => exact ⟨0, by omega, rfl, HI, HB, Z, AR⟩
  case round =>
    obtain ⟨k, hk, rfl, HI', HB', Z', AR'⟩ := hrel
    clear HI HB Z AR
    by_cases hlt : k < 3
    · have hrd := read_calls g (rst r k).1 (rst r k).2 2 (by omega) w wr HI'.out HB'.out
      go_wp2_with fail
      refine hrd.mono ?_
      clear hrd
      rintro e w4 ⟨rfl, hI, hB, hK⟩
      have HI := Aside0.mk hI
      have HB := Aside0.mk hB
      have Z := Aside0.mk ((hK.2 _ (blk_lt Z'.out) (HI'.out.ne_blk Z'.out (by decide)).symm (by simp)).trans Z'.out)
      have AR := Aside0.mk ((hK.2 _ (blk_lt AR'.out) (HI'.out.ne_blk AR'.out (by decide)).symm (by simp)).trans AR'.out)
      clear hI hB hK
      have cA := (blk_cell AR.out k).trans (ar3_get r k hlt)
      have fA := blk_frozen AR.out k
      have ARs := Aside0.mk (blk_put AR.out k (.int .i64 (rnum r k)) (ar3_set r k hlt))
      have Zs := Aside0.mk (blk_far (p := ⟨w2.heap.size, k, none⟩) Z.out (by have := Z'.out; have := AR'.out; exact blk_ne Z'.out AR'.out (by decide)) (.int .i64 (rnum r k)))
      have HIs := Aside0.mk (HI.out.far (p := ⟨w2.heap.size, k, none⟩) (HI.out.ne_blk AR.out (by decide)) (.int .i64 (rnum r k)))
      have HBs := Aside0.mk (HB.out.setCell (p := ⟨w2.heap.size, k, none⟩) HL.out (.int .i64 (rnum r k)))
      go_wp2_with fail
      go_roundw
      case rel => exact ⟨k + 1, by omega, by go_num, HIs, HBs, Zs, ARs⟩
      case measure => simp [intOf]; omega
    · obtain rfl : k = 3 := by omega
      have a0 : wr.cell? ⟨w2.heap.size, 0, none⟩ = some (.int .i64 (rnum r 0)) := (blk_cell AR'.out 0).trans rfl
      have a1 : wr.cell? ⟨w2.heap.size, 1, none⟩ = some (.int .i64 (rnum r 1)) := (blk_cell AR'.out 1).trans rfl
      have a2 : wr.cell? ⟨w2.heap.size, 2, none⟩ = some (.int .i64 (rnum r 2)) := (blk_cell AR'.out 2).trans rfl
      have hen := end_calls g (rst r 3).1 (rst r 3).2 w (wr.alloc (.cells #[.int .i64 (rnum r 0), .int .i64 (rnum r 1), .int .i64 (rnum r 2)] 23)) (HI'.out.alloc _) (below_alloc HB'.out _)
      have hck := fun W => shape_Check.calls (rnum r 0) (rnum r 1) (rnum r 2) _ W rfl
      have hy := HY.out
      generalize endS (rst r 3).1 (rst r 3).2 = en at hen hy
      generalize checkR (rnum r 0) (rnum r 1) (rnum r 2) = ck at hck hy
      have HE := Aside0.mk hen
      have HK := Aside0.mk hck
      clear hen hck HY
      have Hz := Aside0.mk (blk_ne HI'.out.1 Z'.out (by decide))
      have Hn := Aside0.mk HI'.out.lt
      have hcs : (en != 0) = true ∧ (y0 = 0 ∧ y1 = 0 ∧ y2 = 0 ∧ y3 = 60) ∨ en = 0 ∧ (ck != 0) = true ∧ (y0 = 0 ∧ y1 = 0 ∧ y2 = 0 ∧ y3 = 60) ∨ en = 0 ∧ ck = 0 ∧ (y0 = rnum r 0 ∧ y1 = rnum r 1 ∧ y2 = rnum r 2 ∧ y3 = 0) := by
        by_cases h1 : en = 0
        · by_cases h2 : ck = 0
          · rw [if_neg (by simp [h1, h2])] at hy
            simp only [Prod.mk.injEq] at hy
            right; right
            exact ⟨h1, h2, hy.1.symm, hy.2.1.symm, hy.2.2.1.symm, hy.2.2.2.symm⟩
          · rw [if_pos (by simp [h2])] at hy
            simp only [Prod.mk.injEq] at hy
            right; left
            exact ⟨h1, by simp [h2], hy.1.symm, hy.2.1.symm, hy.2.2.1.symm, hy.2.2.2.symm⟩
        · rw [if_pos (by simp [h1])] at hy
          simp only [Prod.mk.injEq] at hy
          left
          exact ⟨by simp [h1], hy.1.symm, hy.2.1.symm, hy.2.2.1.symm, hy.2.2.2.symm⟩
      clear hy
      generalize rnum r 0 = n0 at *
      generalize rnum r 1 = n1 at *
      generalize rnum r 2 = n2 at *
      have HAR := AR'
      clear AR'
      rcases hcs with ⟨h1, rfl, rfl, rfl, rfl⟩ | ⟨rfl, h2, rfl, rfl, rfl, rfl⟩ | ⟨rfl, rfl, rfl, rfl, rfl, rfl⟩
      · go_wp2_with fail
        refine HE.out.mono ?_
        rintro e w4 ⟨rfl, hI, hB, hK⟩
        have hz := (hK.2 _ (by have := blk_lt Z'.out; simp; omega) Hz.out.symm (by simp)).trans (blk_alloc Z'.out _)
        have c0 := (blk_cell hz 0).trans (Eq.refl (some (Value.int .i64 0)))
        have c1 := (blk_cell hz 1).trans (Eq.refl (some (Value.int .i64 0)))
        have c2 := (blk_cell hz 2).trans (Eq.refl (some (Value.int .i64 0)))
        have f0 := blk_frozen hz 0
        have f1 := blk_frozen hz 1
        have f2 := blk_frozen hz 2
        have HB := Aside0.mk hB
        clear hI hB hK hz
        go_wp2_with fail
        refine bodyPost_ret (v := .tuple #[.agg #[.int .i64 0, .int .i64 0, .int .i64 0], .int .i64 60]) (by simp [results, Try.results13, go_sem, c0, c1, c2]) rfl ⟨rfl, ?_⟩
        exact ((HB.out.setCell (Nat.le_refl _) _).setCell (Nat.le_refl _) _).setCell (Nat.le_refl _) _
      · go_wp2_with fail
        refine HE.out.mono ?_
        rintro e w4 ⟨rfl, hI, hB, hK⟩
        have hz := (hK.2 _ (by have := blk_lt Z'.out; simp; omega) Hz.out.symm (by simp)).trans (blk_alloc Z'.out _)
        have hs := (hK.2 _ (by simp) (by have := Hn.out; omega) (by simp)).trans (blk_new wr _)
        have HB := Aside0.mk hB
        have HZ := Aside0.mk hz
        have d0 := (blk_cell hs 0).trans (Eq.refl (some (Value.int .i64 n0)))
        have d1 := (blk_cell hs 1).trans (Eq.refl (some (Value.int .i64 n1)))
        have d2 := (blk_cell hs 2).trans (Eq.refl (some (Value.int .i64 n2)))
        have HS := Aside0.mk hs
        clear hI hB hK hz hs
        go_wp2_with fail
        refine (HK.out _).mono ?_
        rintro e w5 ⟨rfl, hB5⟩
        have hz := blk_below HZ.out hB5
        have hs := blk_below HS.out hB5
        have c0 := (blk_cell hz 0).trans (Eq.refl (some (Value.int .i64 0)))
        have c1 := (blk_cell hz 1).trans (Eq.refl (some (Value.int .i64 0)))
        have c2 := (blk_cell hz 2).trans (Eq.refl (some (Value.int .i64 0)))
        have d0 := (blk_cell hs 0).trans (Eq.refl (some (Value.int .i64 n0)))
        have d1 := (blk_cell hs 1).trans (Eq.refl (some (Value.int .i64 n1)))
        have d2 := (blk_cell hs 2).trans (Eq.refl (some (Value.int .i64 n2)))
        have f0 := blk_frozen hz 0
        have f1 := blk_frozen hz 1
        have f2 := blk_frozen hz 2
        have HB5 := Aside0.mk (HB.out.trans (hB5.mono HB.out.size))
        clear hB5 hz hs
        go_wp2_with fail
        refine bodyPost_ret (v := .tuple #[.agg #[.int .i64 0, .int .i64 0, .int .i64 0], .int .i64 60]) (by simp [results, Try.results13, go_sem, c0, c1, c2]) rfl ⟨rfl, ?_⟩
        exact ((HB5.out.setCell (Nat.le_refl _) _).setCell (Nat.le_refl _) _).setCell (Nat.le_refl _) _
      · go_wp2_with fail
        refine HE.out.mono ?_
        rintro e w4 ⟨rfl, hI, hB, hK⟩
        have hz := (hK.2 _ (by have := blk_lt Z'.out; simp; omega) Hz.out.symm (by simp)).trans (blk_alloc Z'.out _)
        have hs := (hK.2 _ (by simp) (by have := Hn.out; omega) (by simp)).trans (blk_new wr _)
        have HB := Aside0.mk hB
        have HZ := Aside0.mk hz
        have d0 := (blk_cell hs 0).trans (Eq.refl (some (Value.int .i64 y0)))
        have d1 := (blk_cell hs 1).trans (Eq.refl (some (Value.int .i64 y1)))
        have d2 := (blk_cell hs 2).trans (Eq.refl (some (Value.int .i64 y2)))
        have HS := Aside0.mk hs
        clear hI hB hK hz hs
        go_wp2_with fail
        refine (HK.out _).mono ?_
        rintro e w5 ⟨rfl, hB5⟩
        have hz := blk_below HZ.out hB5
        have hs := blk_below HS.out hB5
        have c0 := (blk_cell hz 0).trans (Eq.refl (some (Value.int .i64 0)))
        have c1 := (blk_cell hz 1).trans (Eq.refl (some (Value.int .i64 0)))
        have c2 := (blk_cell hz 2).trans (Eq.refl (some (Value.int .i64 0)))
        have d0 := (blk_cell hs 0).trans (Eq.refl (some (Value.int .i64 y0)))
        have d1 := (blk_cell hs 1).trans (Eq.refl (some (Value.int .i64 y1)))
        have d2 := (blk_cell hs 2).trans (Eq.refl (some (Value.int .i64 y2)))
        have f0 := blk_frozen hz 0
        have f1 := blk_frozen hz 1
        have f2 := blk_frozen hz 2
        have HB5 := Aside0.mk (HB.out.trans (hB5.mono HB.out.size))
        clear hB5 hz hs
        go_wp2_with fail
        refine bodyPost_ret (v := .tuple #[.agg #[.int .i64 y0, .int .i64 y1, .int .i64 y2], .int .i64 0]) (by simp [results, Try.results13, go_sem, c0, c1, c2]) rfl ⟨rfl, ?_⟩
        exact ((HB5.out.setCell (Nat.le_refl _) _).setCell (Nat.le_refl _) _).setCell (Nat.le_refl _) _

def shape_Read.f (s : ByteArray) : Option (Int × Int × Int × Int) := lim s (sreadS s)
theorem shape_Read.calls (a0 : ByteArray) (r1 r2 r3 r4 : Int) (w : World) (h : shape_Read.f a0 = some (r1, r2, r3, r4)) :
    Calls Try.prog 13 #[.string a0] w fun e w' => e = .returned (.tuple #[.agg #[.int .i64 r1, .int .i64 r2, .int .i64 r3], .int .i64 r4]) ∧ Below w.heap.size w w' := by
  obtain ⟨hs, h2⟩ := lim_some h
  unfold sreadS at h2
  by_cases hc : (unblockS a0).2 ≠ 0 ∨ (cutS (unblockS a0).1 cart4).2 = false
  · rw [if_pos hc] at h2
    simp only [Prod.mk.injEq] at h2
    obtain ⟨rfl, rfl, rfl, rfl⟩ := h2
    exact read_no a0 w hs hc
  · rw [if_neg hc] at h2
    have h1 : (unblockS a0).2 = 0 := by
      by_cases h : (unblockS a0).2 = 0
      · exact h
      · exact absurd (.inl h) hc
    have h3 : (cutS (unblockS a0).1 cart4).2 = true := by
      cases h : (cutS (unblockS a0).1 cart4).2
      · exact absurd (.inr h) hc
      · rfl
    exact read_yes a0 _ _ w hs (Prod.ext rfl h1) (Prod.ext rfl h3) r1 r2 r3 r4 h2
end Go.Proofs.Ytgidiphffcahjaa.C
