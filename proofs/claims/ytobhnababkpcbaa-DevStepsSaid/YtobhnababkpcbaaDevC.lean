/- A device in memory: Crash. -/
import Derived.Test.YtobhnababkpcbaaDevF
import Derived.Maps.RangeWalk
set_option linter.unusedVariables false
set_option linter.unusedSimpArgs false
namespace Go.Proofs.Ytobhnababkpcbaa.Dev
open Go.RowKit Go.Proofs.YtobhnababkpcbaaW.PrintWords Go.Proofs.YtobhnababkpcbaaW.PrintLast Go.Proofs.YtobhnababkpcbaaW.PrintMore Go.Proofs.Ytobhnababkpcbaa.Maps Go.Proofs.Ytobhnababkpcbaa.DevS Go.Proofs.Ytobhnababkpcbaa.Given

/-- A row of Booleans at A. -/
def Picks (w : World) (A : Option Addr) (l : List Bool) : Prop := ∀ i (h : i < l.length), ∃ ad, A = some ad ∧ w.cell? (ad.add i) = some (.bool l[i])
theorem Picks.step {w w' : World} {A : Option Addr} {l : List Bool} (h : Picks w A l) (hb : ∀ ad, A = some ad → l ≠ [] → w'.heap[ad.block]? = w.heap[ad.block]?) : Picks w' A l := by
  intro i hi
  obtain ⟨ad, e, hc⟩ := h i hi
  refine ⟨ad, e, ?_⟩
  rw [← hc]
  have : (ad.add i).block = ad.block := by unfold Addr.add; split <;> rfl
  exact World.cell?_of_block (by rw [this]; exact hb ad e (fun e0 => by rw [e0] at hi; simp at hi))
theorem Picks.nil (w : World) (A : Option Addr) : Picks w A [] := fun i hi => by simp at hi
theorem crash_step1 (picks : List Bool) (torn i : Nat) (first : Bool) (f : F) (q : List (Int × ByteArray)) (h : i < q.length) (hp : picks[i]? = some true) :
    crashF picks torn i first f (q.drop i) = crashF picks torn (i + 1) first (layW f q[i] 1024) (q.drop (i + 1)) := by
  rw [List.drop_eq_getElem_cons h, crashF, if_pos hp]
theorem crash_step2 (picks : List Bool) (torn i : Nat) (f : F) (q : List (Int × ByteArray)) (h : i < q.length) (hp : ¬ picks[i]? = some true) :
    crashF picks torn i true f (q.drop i) = crashF picks torn (i + 1) false (layW f q[i] torn) (q.drop (i + 1)) := by
  rw [List.drop_eq_getElem_cons h, crashF, if_neg hp, if_pos rfl]
theorem crash_step3 (picks : List Bool) (torn i : Nat) (f : F) (q : List (Int × ByteArray)) (h : i < q.length) (hp : ¬ picks[i]? = some true) :
    crashF picks torn i false f (q.drop i) = crashF picks torn (i + 1) false f (q.drop (i + 1)) := by
  rw [List.drop_eq_getElem_cons h, crashF, if_neg hp, if_neg (by decide)]
section
variable {B db lb sb : Nat} {v : Value} {d : D} {w w' : World} {picks : List Bool} {A : Option Addr} {c : Nat} {torn : Int}
set_option maxHeartbeats 800000 in
set_option maxRecDepth 100000 in
theorem crash_arg (r p : Value) (w : World) (h : torn < 0 ∨ 1024 < torn) : Calls Try.prog 12 #[r, p, .int .i64 torn] w fun e w' => e = .returned (.int .i64 1) ∧ w' = w := by
  by_cases h1 : torn < 0
  · have b1 : decide (torn < 0) = true := decide_eq_true h1
    go_enter Try.func12, Try.ntmps12
    go_wp2
    go_ret
    exact ⟨rfl, rfl⟩
  · have b1 : decide (torn < 0) = false := decide_eq_false h1
    have b2 : decide (torn > 1024) = true := decide_eq_true (by omega)
    go_enter Try.func12, Try.ntmps12
    go_wp2
    go_ret
    exact ⟨rfl, rfl⟩
set_option maxHeartbeats 800000 in
set_option maxRecDepth 100000 in
theorem crash_nil (p : Value) (w : World) (h1 : 0 ≤ torn) (h2 : torn ≤ 1024) : Calls Try.prog 12 #[.pointer none, p, .int .i64 torn] w fun e w' => e = .returned (.int .i64 0) ∧ w' = w := by
  have b1 : decide (torn < 0) = false := decide_eq_false (by omega)
  have b2 : decide (torn > 1024) = false := decide_eq_false (by omega)
  have hup := Try.underlying24
  go_enter Try.func12, Try.ntmps12
  go_wp2
  go_ret
  exact ⟨rfl, rfl⟩
set_option maxHeartbeats 6400000 in
set_option maxRecDepth 100000 in
theorem crash_ok (tn : Nat) (h : DevIs B w db lb sb v d) (hB : B ≤ w.heap.size) (hql : d.q.length ≤ 1000000) (ht : tn ≤ 1024) (hp : Picks w A picks) (hpl : picks.length ≤ 140737488355328) (hsep : ∀ ad, A = some ad → picks ≠ [] → ¬ fp db lb sb v ad.block ∧ ad.block < w.heap.size) :
    Calls Try.prog 12 #[ptr db, .slice A picks.length c, .int .i64 tn] w (WritePost B db lb sb v w { d with la := crashF picks tn 0 true d.la d.q, se := crashF picks tn 0 true d.la d.q, q := [] } (.int .i64 0)) := by
  have hu := Try.underlying56
  have hup := Try.underlying24
  have huw := Try.underlying58
  have b1 : decide ((tn : Int) < 0) = false := decide_eq_false (by omega)
  have b2 : decide (1024 < tn) = false := decide_eq_false (by omega)
  obtain ⟨Aq, cq, rfl⟩ := h.slice
  have c3 := h.c3
  have H := Aside0.mk h
  have HPk := Aside0.mk hp
  have HSep := Aside0.mk hsep
  clear h hp hsep
  unfold ptr at *
  go_enter Try.func12, Try.ntmps12
  go_wp2_with fail
  go_loopw [7, 25] (fun v7 v25 wr => ∃ (i : Nat) (f : F) (first : Bool), i ≤ d.q.length ∧ v7 = .bool first ∧ v25 = .int .i64 (i : Int) ∧ Aside0 (MapF wr kp lb (vs f)) ∧ Aside0 (crashF picks tn i first f (d.q.drop i) = crashF picks tn 0 true d.la d.q) ∧ Aside0 (Fr w wr (· = lb))) (fun _ x _ => d.q.length - (intOf x).toNat)
  case atStart => exact ⟨0, d.la, true, by omega, rfl, rfl, ⟨H.out.la⟩, ⟨rfl⟩, ⟨Fr.refl _ _⟩⟩
  case round =>
    obtain ⟨i, f, first, hi, rfl, rfl, HM, HE, HF⟩ := hrel
    by_cases hlt : i < d.q.length
    · obtain ⟨k1, k2⟩ := wv_at d.q i hlt
      obtain ⟨g, rfl⟩ : ∃ g, Aq = some ⟨g, 0, none⟩ := by
        rcases H.out.row.2 with ⟨h1, h2⟩ | ⟨g, cap, cur, h1, _⟩
        · simp at h1
          omega
        · simp at h1
          exact ⟨g, h1.1⟩
      have HN : Aside0 (g ≠ lb ∧ db ≠ lb ∧ lb < w.heap.size) := ⟨by simpa [Value.ownBlock] using H.out.row_ne.2.1, H.out.db_ne.1, H.out.la.lt⟩
      have R3 : Aside0 (wr.ownsRow B 58 2 (.slice (some ⟨g, 0, none⟩) d.q.length cq) d.q.length (wv d.q)) := ⟨H.out.row.kept (row := some lb) ⟨HF.out.os, HF.out.tape, HF.out.output, HF.out.size, fun k hk hne => HF.out.block k hk (by simpa using hne)⟩ (.inr (by simpa [Value.ownBlock] using HN.out.1))⟩
      have e0 := (R3.out.cellAt (i * 2) (by omega)).trans k1
      have e1 := (R3.out.cellAt (i * 2 + 1) (by omega)).trans k2
      have hwf := H.out.wf.2 _ (List.getElem_mem hlt)
      have HP2 := Aside0.mk (HPk.out.step (w' := wr) (fun ad e en => HF.out.block ad.block (HSep.out ad e en).2 (fun e2 => (HSep.out ad e en).1 (.inr (.inl e2)))))
      have s1 := crash_step1 picks tn i first f d.q hlt
      have s2 := crash_step2 picks tn i f d.q hlt
      have s3 := crash_step3 picks tn i f d.q hlt
      generalize hx : d.q[i] = x at e0 e1 hwf s1 s2
      obtain ⟨a, s⟩ := x
      clear k1 k2 c3 hx
      have D3 : Aside0 (wr.heap[db]? = some (.cells #[.int .i64 d.n, .map (some lb), .map (some sb), .slice (some ⟨g, 0, none⟩) d.q.length cq] 56 (0, 0))) := ⟨(HF.out.block db (blk_lt H.out.dev) HN.out.2.1).trans H.out.dev⟩
      have P1 := Aside0.mk (blk_new wr (.cells #[.int .i64 a, .string s] 58))
      have B1 := Aside0.mk (below_alloc (Below.refl wr.heap.size wr) (.cells #[.int .i64 a, .string s] 58))
      have HW := Aside0.mk hwf
      have S1 := Aside0.mk s1
      have S2 := Aside0.mk s2
      have S3 := Aside0.mk s3
      clear hwf s1 s2 s3
      go_upto_region 9 with fail
      generalize hW : wr.alloc (.cells #[.int .i64 a, .string s] 58) = W1 at P1 B1 ⊢
      clear hW e0 e1
      have p0 := (blk_cell P1.out 0).trans (Eq.refl (some (Value.int .i64 a)))
      have p1 := (blk_cell P1.out 1).trans (Eq.refl (some (Value.string s)))
      have D4 := Aside0.mk ((B1.out.block db (blk_lt D3.out)).trans D3.out)
      have d1 := (blk_cell D4.out 1).trans (Eq.refl (some (Value.map (some lb))))
      have hsz : s.size ≤ 1048576 := by have h1 : s.size / 128 ≤ d.n := HW.out.2.2.1; have h2 : s.size % 128 = 0 := HW.out.1.2; have h3 := H.out.wf.1; omega
      have ha : 0 ≤ a ∧ a ≤ 1048576 := by have h1 : 0 ≤ a := HW.out.2.1; have h2 : a ≤ (d.n : Int) - (s.size / 128 : Nat) := HW.out.2.2.2; have h3 := H.out.wf.1; omega
      have HL := Aside0.mk (lay_calls a s lb 1024 f W1.drew (HM.out.of_block (B1.out.block lb HM.out.lt)) ha.1 ha.2 hsz (by omega))
      have HL2 := Aside0.mk (lay_calls a s lb tn f W1.drew (HM.out.of_block (B1.out.block lb HM.out.lt)) ha.1 ha.2 hsz (by omega))
      have F1 : Aside0 (Fr w W1 (· = lb)) := ⟨HF.out.trans (Fr.of_below B1.out (· = lb)) (fun _ h => .inl h)⟩
      have M1 := Aside0.mk (HM.out.of_block (w' := W1) (B1.out.block lb HM.out.lt))
      have HP3 := Aside0.mk (HP2.out.step (w' := W1) (fun ad e en => B1.out.block ad.block (Nat.lt_of_lt_of_le (HSep.out ad e en).2 HF.out.size)))
      clear hsz ha HM HF HP2 R3 D3
      go_cut [30] (fun v30 wc => v30 = .bool (decide (picks[i]? = some true)) ∧ wc = W1)
      case first =>
        by_cases h5 : i < picks.length
        · obtain ⟨ad, rfl, hc⟩ := HP3.out i h5
          have h5b : decide (i < picks.length) = true := decide_eq_true h5
          have hg5 : picks[i]? = some picks[i] := List.getElem?_eq_getElem h5
          generalize picks[i] = bb at hc hg5
          go_wp2_with fail
          go_meet
          case rel => exact ⟨by rw [hg5]; cases bb <;> rfl, rfl⟩
        · have h5b : decide (i < picks.length) = false := decide_eq_false h5
          go_wp2_with fail
          go_meet
          case rel => exact ⟨by rw [List.getElem?_eq_none (by omega)]; rfl, rfl⟩
      case rest =>
        obtain ⟨rfl, rfl⟩ := hcut
        by_cases h6 : picks[i]? = some true
        · have h6b : decide (picks[i]? = some true) = true := decide_eq_true h6
          rw [h6b]
          have S7 := Aside0.mk (S1.out h6)
          clear h6 h6b S1 S2 S3
          go_wp2_with fail
          go_region_with (go_at_call 24; refine HL.out.mono ?_; rintro e w3 ⟨rfl, hm3, hf3⟩; have M3 := Aside0.mk hm3; have F3 := Aside0.mk hf3; clear hm3 hf3)
          all_goals
            have F5 : Aside0 (Fr w w3 (· = lb)) := ⟨F1.out.trans ⟨F3.out.os, F3.out.tape, F3.out.output, F3.out.size, F3.out.block⟩ (fun _ h => .inl h)⟩
            have E5 := Aside0.mk (S7.out.symm.trans HE.out)
            clear F1 HE F3 HL HL2 S7
            go_wp2_with fail
            go_roundw
            case rel => exact ⟨i + 1, _, first, by omega, rfl, by simp, M3, E5, F5⟩
            case measure => simp [intOf]; omega
        · have h6b : decide (picks[i]? = some true) = false := decide_eq_false h6
          rw [h6b]
          cases first with
          | true =>
            have S7 := Aside0.mk (S2.out h6)
            clear h6 h6b S1 S2 S3
            go_wp2_with fail
            go_region_with (go_at_call 24; refine HL2.out.mono ?_; rintro e w3 ⟨rfl, hm3, hf3⟩; have M3 := Aside0.mk hm3; have F3 := Aside0.mk hf3; clear hm3 hf3)
            all_goals
              have F5 : Aside0 (Fr w w3 (· = lb)) := ⟨F1.out.trans ⟨F3.out.os, F3.out.tape, F3.out.output, F3.out.size, F3.out.block⟩ (fun _ h => .inl h)⟩
              have E5 := Aside0.mk (S7.out.symm.trans HE.out)
              clear F1 HE F3 HL HL2 S7
              go_wp2_with fail
              go_roundw
              case rel => exact ⟨i + 1, _, false, by omega, rfl, by simp, M3, E5, F5⟩
              case measure => simp [intOf]; omega
          | false =>
            have S7 := Aside0.mk (S3.out h6)
            have E5 := Aside0.mk (S7.out.symm.trans HE.out)
            clear h6 h6b S1 S2 S3
            go_wp2_with fail
            go_roundw
            case rel => exact ⟨i + 1, f, false, by omega, rfl, by simp, M1, E5, F1⟩
            case measure => simp [intOf]; omega
    · obtain rfl : i = d.q.length := by omega
      have HN : Aside0 (db ≠ lb) := ⟨H.out.db_ne.1⟩
      have D3 : Aside0 (wr.heap[db]? = some (.cells #[.int .i64 d.n, .map (some lb), .map (some sb), .slice Aq d.q.length cq] 56 (0, 0))) := ⟨(HF.out.block db (blk_lt H.out.dev) HN.out).trans H.out.dev⟩
      have c3' := (blk_cell D3.out 3).trans (Eq.refl (some (Value.slice Aq d.q.length cq)))
      have f3' := blk_frozen D3.out 3
      clear c3
      have D4 : Aside0 ((wr.setCell ⟨db, 3, none⟩ (.slice none 0 0)).heap[db]? = some (.cells #[.int .i64 d.n, .map (some lb), .map (some sb), .slice none 0 0] 56 (0, 0))) := ⟨by simpa using blk_set D3.out 3 (.slice none 0 0)⟩
      have M4 := Aside0.mk (HM.out.of_block (Below.heap_setCell wr ⟨db, 3, none⟩ (.slice none 0 0) lb (Ne.symm HN.out)))
      have F4 : Aside0 (Fr w (wr.setCell ⟨db, 3, none⟩ (.slice none 0 0)) (fun k => k = lb ∨ k = db)) := ⟨⟨HF.out.os, HF.out.tape, HF.out.output, by have := HF.out.size; simp only [World.setCell, Array.size_modify]; omega, fun k hk hn => (Below.heap_setCell wr ⟨db, 3, none⟩ _ k (fun e => hn (.inr e))).trans (HF.out.block k hk (fun e => hn (.inl e)))⟩⟩
      go_upto_region 16 with fail
      generalize hW : wr.setCell ⟨db, 3, none⟩ (.slice none 0 0) = W4 at D4 M4 F4 ⊢
      clear hW c3' f3' D3 HM HF
      have hmk := make_map W4
      have D5 := Aside0.mk ((Below.heap_alloc W4 (.map #[] 0) db (blk_lt D4.out)).trans D4.out)
      have c2' := (blk_cell D5.out 2).trans (Eq.refl (some (Value.map (some sb))))
      have f2' := blk_frozen D5.out 2
      have D6 : Aside0 (((W4.alloc (.map #[] 0)).setCell ⟨db, 2, none⟩ (.map (some W4.heap.size))).heap[db]? = some (.cells #[.int .i64 d.n, .map (some lb), .map (some W4.heap.size), .slice none 0 0] 56 (0, 0))) := ⟨by simpa using blk_set D5.out 2 (.map (some W4.heap.size))⟩
      have M6 := Aside0.mk ((M4.out.of_block (Below.heap_alloc W4 (.map #[] 0) lb M4.out.lt)).of_block (Below.heap_setCell (W4.alloc (.map #[] 0)) ⟨db, 2, none⟩ (.map (some W4.heap.size)) lb (Ne.symm HN.out)))
      have M7 := Aside0.mk ((MapF.made (kv := kp) W4).of_block (Below.heap_setCell (W4.alloc (.map #[] 0)) ⟨db, 2, none⟩ (.map (some W4.heap.size)) W4.heap.size (by have := blk_lt D4.out; simp only; omega)))
      have F6 : Aside0 (Fr w ((W4.alloc (.map #[] 0)).setCell ⟨db, 2, none⟩ (.map (some W4.heap.size))) (fun k => k = lb ∨ k = db)) := ⟨⟨F4.out.os, F4.out.tape, F4.out.output, by have := F4.out.size; simp only [World.setCell, Array.size_modify]; simp; omega, fun k hk hn => (Below.heap_setCell (W4.alloc (.map #[] 0)) ⟨db, 2, none⟩ _ k (fun e => hn (.inr e))).trans ((Below.heap_alloc W4 _ k (by have := F4.out.size; omega)).trans (F4.out.block k hk hn))⟩⟩
      go_upto_region 17 with fail
      generalize hW : (W4.alloc (.map #[] 0)).setCell ⟨db, 2, none⟩ (.map (some W4.heap.size)) = W5 at D6 M6 M7 F6 ⊢
      have HS5 : Aside0 (W5.heap.size = W4.heap.size + 1) := ⟨by rw [← hW]; simp [World.setCell]⟩
      clear hW hmk c2' f2' D5
      have c1 := (blk_cell D6.out 1).trans (Eq.refl (some (Value.map (some lb))))
      go_wp2_with (at_range; refine wpList_frange _ rfl _ _ rfl Try.underlying53 rfl M6.out ?_; intro w0 hr0 hg0 hs0)
      obtain ⟨cnt0, hr0⟩ := hr0
      have hz : W5.heap.size = W5.heap.size := rfl
      have M8 := Aside0.mk (M7.out.of_block (hg0.block W4.heap.size (by have := M7.out.lt; omega) (by simp)))
      have D8 := Aside0.mk ((hg0.block db (blk_lt D6.out) (by simp)).trans D6.out)
      have F8 : Aside0 (Fr w w0 (fun k => k = lb ∨ k = db)) := ⟨⟨hg0.os.trans F6.out.os, hg0.tape.trans F6.out.tape, hg0.output.trans F6.out.output, Nat.le_trans F6.out.size hg0.size, fun k hk hn => (hg0.block k (Nat.lt_of_lt_of_le hk F6.out.size) (by simp)).trans (F6.out.block k hk hn)⟩⟩
      have R8 := Aside0.mk hr0
      have HS : Aside0 (w.heap.size ≤ W4.heap.size ∧ W4.heap.size < W5.heap.size ∧ db < w.heap.size ∧ lb < w.heap.size) := ⟨F4.out.size, by have := HS5.out; omega, blk_lt H.out.dev, H.out.la.lt⟩
      have EF : Aside0 (f = crashF picks tn 0 true d.la d.q) := ⟨by have := HE.out; rw [List.drop_length] at this; exact this⟩
      clear hg0 hs0 hr0 hz M7 D6 F6 M6 HS5 c1 F4 M4 D4 HE
      generalize W4.heap.size = s6 at M8 D8 HS ⊢
      generalize W5.heap.size = r at R8 HS ⊢
      clear W4 W5
      go_frame
      go_loopw [70] (fun v70 wq => ∃ (left : Int → Bool) (cnt : Nat) (f2 : F), Aside0 (Rng wq kp lb r (vs f) left cnt) ∧ Aside0 (MapF wq kp s6 (vs f2)) ∧ Aside0 (∀ k, f2 k = if left k = true then none else f k) ∧ Aside0 (wq.heap[db]? = some (.cells #[.int .i64 d.n, .map (some lb), .map (some s6), .slice none 0 0] 56 (0, 0))) ∧ Aside0 (Fr w wq (fun k => k = lb ∨ k = db))) (fun _ wq => rngLeft wq lb r)
      case atStart => exact ⟨_, cnt0, fun _ => none, R8, M8, ⟨fun k => by
        show none = if (vs f k).isSome = true then none else f k
        unfold vs
        cases f k <;> rfl⟩, D8, F8⟩
      case round =>
        clear R8 M8 D8 F8
        obtain ⟨left, cnt, f2, HR, HM2, HL, HD, HF2⟩ := hrel
        go_wp2_with (at_next; refine wpList_fnext _ rfl _ rfl HR.out rfl ?_ ?_)
        · intro hl0
          go_wp2
          go_ret
          have e2 : f2 = f := by
            funext k
            rw [HL.out k, hl0 k]
            rfl
          rw [e2] at HM2
          rw [← EF.out]
          refine ⟨s6, .slice none 0 0, rfl, ⟨HD.out, own_nil _ _ _ _, HR.out.map, HM2.out, H.out.bd, H.out.bl, by have := HS.out.1; omega, by have := HS.out; omega, ⟨H.out.wf.1, by simp⟩⟩, ⟨HF2.out.os, HF2.out.tape, HF2.out.output, HF2.out.size, fun k hk hn => HF2.out.block k hk (by
            rintro (e | e)
            · exact hn (.inr (.inl e))
            · exact hn (.inl e))⟩, ?_⟩
          rintro k (e | e | e | e)
          · exact .inl (.inl e)
          · exact .inl (.inr (.inl e))
          · exact .inr (by rw [e]; exact HS.out.1)
          · simp [Value.ownBlock] at e
        · intro k v1 w1 cnt1 hlk hfk hr1 hltc hg1 hs1 hen
          obtain ⟨s, hs, rfl⟩ : ∃ s, f k = some s ∧ v1 = .string s := by
            unfold vs at hfk
            obtain ⟨s, h1, h2⟩ := Option.map_eq_some_iff.1 hfk
            exact ⟨s, h1, h2.symm⟩
          replace hen : (Instr.entry (.pointer (some ⟨r, 0, none⟩))).run Try.prog w1 = .ok (.tuple #[.agg #[.int .i64 k], .string s]) w1 := hen
          have hup2 := Try.underlying62
          have HN2 : Aside0 (r ≠ s6 ∧ r ≠ db ∧ r ≠ lb ∧ s6 ≠ lb ∧ s6 ≠ db) := ⟨by have := HS.out; omega⟩
          have D9 := Aside0.mk ((hg1.block db (blk_lt HD.out) (by simpa using fun e => HN2.out.2.1 e.symm)).trans HD.out)
          have M9 := Aside0.mk (HM2.out.of_block (hg1.block s6 HM2.out.lt (by simpa using fun e => HN2.out.1 e.symm)))
          have F9 : Aside0 (Fr w w1 (fun k => k = lb ∨ k = db)) := ⟨⟨hg1.os.trans HF2.out.os, hg1.tape.trans HF2.out.tape, hg1.output.trans HF2.out.output, Nat.le_trans HF2.out.size hg1.size, fun k hk hn => (hg1.block k (Nat.lt_of_lt_of_le hk HF2.out.size) (by have := HS.out; simp; omega)).trans (HF2.out.block k hk hn)⟩⟩
          have P9 := Aside0.mk (blk_new w1 (.cells #[.int .i64 k] 62))
          have B9 := Aside0.mk (below_alloc (Below.refl w1.heap.size w1) (.cells #[.int .i64 k] 62))
          have R9 := Aside0.mk hr1
          have LC : Aside0 (cnt1 < rngLeft wr lb r) := ⟨by rw [HR.out.left_eq]; exact hltc⟩
          have HK2 := Aside0.mk (And.intro hlk hs)
          clear hr1 hltc hg1 hs1 hlk hfk hs
          go_wp2
          generalize hW6 : w1.alloc (.cells #[.int .i64 k] 62) = W6 at P9 B9 ⊢
          clear hW6
          have D10 := Aside0.mk ((B9.out.block db (blk_lt D9.out)).trans D9.out)
          have M10 := Aside0.mk (M9.out.of_block (B9.out.block s6 M9.out.lt))
          have R10 := Aside0.mk (R9.out.of_blocks (B9.out.block lb R9.out.map.lt) (B9.out.block r R9.out.lt))
          have q2 := (blk_cell D10.out 2).trans (Eq.refl (some (Value.map (some s6))))
          have q0 := (blk_cell P9.out 0).trans (Eq.refl (some (Value.int .i64 k)))
          obtain ⟨w7, hrun, hm7, hg7, hs7⟩ := (M10.out.of_block (w' := W6.drew) rfl).update keyLaw Try.underlying53 k (.string s)
          replace hrun : (Instr.mapUpdate 53 (.map (some s6)) (.agg #[.int .i64 k]) (.string s)).run Try.prog W6.drew = .ok () w7 := hrun
          have M11 := Aside0.mk hm7
          have G11 := Aside0.mk hg7
          clear hm7 hg7 hs7 hen
          go_region
          all_goals
            go_wp2
            go_roundw
            case rel =>
              refine ⟨_, cnt1, DevS.put f2 k s, ⟨R10.out.of_blocks (G11.out.block lb R10.out.map.lt (by simpa using fun e => HN2.out.2.2.2.1 e.symm)) (G11.out.block r R10.out.lt (by simpa using HN2.out.1))⟩, ⟨by have := M11.out; rwa [vs_put] at this⟩, ⟨fun j => ?_⟩, ⟨(G11.out.block db (blk_lt D10.out) (by simpa using fun e => HN2.out.2.2.2.2 e.symm)).trans D10.out⟩, ⟨?_⟩⟩
              · unfold DevS.put
                by_cases e : k = j
                · subst e
                  rw [if_pos rfl, if_neg (by simp), HK2.out.2]
                · rw [if_neg e, HL.out j]
                  by_cases e2 : left j = true
                  · rw [if_pos e2, if_pos (by simp [e2, Ne.symm e])]
                  · rw [if_neg e2, if_neg (by simp [e2])]
              · exact Fr.trans F9.out (Fr.trans (Fr.of_below (w' := W6.drew) (below_drew1 B9.out) (· = s6)) ⟨G11.out.os, G11.out.tape, G11.out.output, G11.out.size, fun j hj hn => G11.out.block j hj (by simpa using hn)⟩ (fun j e => .inl e)) (fun j e => .inr (by rw [e]; exact HS.out.1))
            case measure =>
              have R11 := R10.out.of_blocks (G11.out.block lb R10.out.map.lt (by simpa using fun e => HN2.out.2.2.2.1 e.symm)) (G11.out.block r R10.out.lt (by simpa using HN2.out.1))
              rw [R11.left_eq]
              exact LC.out
theorem crash_calls (h : DevIs B w db lb sb v d) (hB : B ≤ w.heap.size) (hql : d.q.length ≤ 1000000) (hp : Picks w A picks) (hpl : picks.length ≤ 140737488355328) (hsep : ∀ ad, A = some ad → picks ≠ [] → ¬ fp db lb sb v ad.block ∧ ad.block < w.heap.size) :
    Calls Try.prog 12 #[ptr db, .slice A picks.length c, .int .i64 torn] w (WritePost B db lb sb v w (dCrash d picks torn).1 (.int .i64 (dCrash d picks torn).2)) := by
  have same : ∀ {e : Ending} {w' : World}, e = .returned (.int .i64 1) ∧ w' = w → WritePost B db lb sb v w d (.int .i64 1) e w' := by
    rintro e w' ⟨rfl, rfl⟩
    exact ⟨sb, v, rfl, h, Fr.refl _ _, fun _ hk => .inl hk⟩
  unfold dCrash
  by_cases h1 : torn < 0
  · rw [if_pos h1]
    exact (crash_arg _ _ w (.inl h1)).mono fun e w' hh => same hh
  · rw [if_neg h1]
    by_cases h2 : 1024 < torn
    · rw [if_pos h2]
      exact (crash_arg _ _ w (.inr h2)).mono fun e w' hh => same hh
    · rw [if_neg h2]
      obtain ⟨tn, rfl⟩ : ∃ tn : Nat, torn = tn := ⟨torn.toNat, by omega⟩
      exact crash_ok tn h hB hql (by omega) hp hpl hsep
end
end Go.Proofs.Ytobhnababkpcbaa.Dev
