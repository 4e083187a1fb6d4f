/- A device in memory: Flush. -/
import Derived.Test.YtobhnababkpcbaaDevWo
set_option linter.unusedVariables false
set_option linter.unusedSimpArgs false
namespace Go.Proofs.Ytobhnababkpcbaa.Dev
open Go.RowKit Go.Proofs.YtobhnababkpcbaaW.PrintWords Go.Proofs.YtobhnababkpcbaaW.PrintLast Go.Proofs.YtobhnababkpcbaaW.PrintMore Go.Proofs.Ytobhnababkpcbaa.Maps Go.Proofs.Ytobhnababkpcbaa.DevS Go.Proofs.Ytobhnababkpcbaa.Given

theorem wv_at : ∀ (q : List (Int × ByteArray)) (i : Nat) (h : i < q.length), (wv q)[i * 2]? = some (.int .i64 (q[i]).1) ∧ (wv q)[i * 2 + 1]? = some (.string (q[i]).2)
  | [], i, h => by simp at h
  | p :: q, 0, _ => ⟨rfl, rfl⟩
  | p :: q, i + 1, h => by
    have ih := wv_at q i (by simpa using h)
    have e : wv (p :: q) = .int .i64 p.1 :: .string p.2 :: wv q := rfl
    rw [e, show (i + 1) * 2 = i * 2 + 1 + 1 by omega]
    simpa using ih
section
variable {B db lb sb : Nat} {v : Value} {d : D} {w w' : World} {a : Int} {s : ByteArray}
theorem flush_step (f : F) (q : List (Int × ByteArray)) (i : Nat) (h : i < q.length) : flushF f (q.drop i) = flushF (layW f q[i] 1024) (q.drop (i + 1)) := by
  rw [List.drop_eq_getElem_cons h]
  rfl
set_option maxHeartbeats 3200000 in
set_option maxRecDepth 100000 in
theorem flush_calls (h : DevIs B w db lb sb v d) (hB : B ≤ w.heap.size) (hql : d.q.length ≤ 1000000) :
    Calls Try.prog 18 #[ptr db] w (WritePost B db lb sb v w (dFlush d) (.tuple #[])) := by
  have hu := Try.underlying56
  have hup := Try.underlying24
  have huw := Try.underlying58
  obtain ⟨A, c, rfl⟩ := h.slice
  have c3 := h.c3
  have H := Aside0.mk h
  clear h
  unfold ptr at *
  go_enter Try.func18, Try.ntmps18
  go_wp2_with fail
  go_loopw [11] (fun v11 wr => ∃ (i : Nat) (f : F), i ≤ d.q.length ∧ v11 = .int .i64 (i : Int) ∧ Aside0 (MapF wr kp lb (vs f)) ∧ Aside0 (flushF f (d.q.drop i) = flushF d.la d.q) ∧ Aside0 (Fr w wr (· = lb))) (fun x _ => d.q.length - (intOf x).toNat)
  case atStart => exact ⟨0, d.la, by omega, rfl, ⟨H.out.la⟩, ⟨rfl⟩, ⟨Fr.refl _ _⟩⟩
  case round =>
    obtain ⟨i, f, hi, rfl, HM, HE, HF⟩ := hrel
    by_cases hlt : i < d.q.length
    · obtain ⟨k1, k2⟩ := wv_at d.q i hlt
      obtain ⟨g, rfl⟩ : ∃ g, A = some ⟨g, 0, none⟩ := by
        rcases H.out.row.2 with ⟨h1, h2⟩ | ⟨g, cap, cur, h1, _⟩
        · simp at h1
          omega
        · simp at h1
          exact ⟨g, h1.1⟩
      have HN : Aside0 (g ≠ lb ∧ db ≠ lb ∧ lb < w.heap.size) := ⟨by simpa [Value.ownBlock] using H.out.row_ne.2.1, H.out.db_ne.1, H.out.la.lt⟩
      have R3 : Aside0 (wr.ownsRow B 58 2 (.slice (some ⟨g, 0, none⟩) d.q.length c) d.q.length (wv d.q)) := ⟨H.out.row.kept (row := some lb) ⟨HF.out.os, HF.out.tape, HF.out.output, HF.out.size, fun k hk hne => HF.out.block k hk (by simpa using hne)⟩ (.inr (by simpa [Value.ownBlock] using HN.out.1))⟩
      have e0 := (R3.out.cellAt (i * 2) (by omega)).trans k1
      have e1 := (R3.out.cellAt (i * 2 + 1) (by omega)).trans k2
      have hwf := H.out.wf.2 _ (List.getElem_mem hlt)
      generalize hx : d.q[i] = x at e0 e1 hwf
      obtain ⟨a, s⟩ := x
      clear k1 k2 c3
      have D3 : Aside0 (wr.heap[db]? = some (.cells #[.int .i64 d.n, .map (some lb), .map (some sb), .slice (some ⟨g, 0, none⟩) d.q.length c] 56 (0, 0))) := ⟨(HF.out.block db (blk_lt H.out.dev) HN.out.2.1).trans H.out.dev⟩
      have P1 := Aside0.mk (blk_new wr (.cells #[.int .i64 a, .string s] 58))
      have B1 := Aside0.mk (below_alloc (Below.refl wr.heap.size wr) (.cells #[.int .i64 a, .string s] 58))
      have HW := Aside0.mk hwf
      have HX := Aside0.mk hx
      clear hwf hx
      go_wp2_with fail
      generalize hW : wr.alloc (.cells #[.int .i64 a, .string s] 58) = W1 at P1 B1 ⊢
      clear hW e0 e1
      have p0 := (blk_cell P1.out 0).trans (Eq.refl (some (Value.int .i64 a)))
      have p1 := (blk_cell P1.out 1).trans (Eq.refl (some (Value.string s)))
      have D4 := Aside0.mk ((B1.out.block db (blk_lt D3.out)).trans D3.out)
      have d1 := (blk_cell D4.out 1).trans (Eq.refl (some (Value.map (some lb))))
      have hsz : s.size ≤ 1048576 := by have h1 := HW.out.2.2.1; have h2 := HW.out.1.2; have h3 := H.out.wf.1; omega
      have ha : 0 ≤ a ∧ a ≤ 1048576 := by have h1 := HW.out.2.1; have h2 := HW.out.2.2.2; have h3 := H.out.wf.1; omega
      have HL := Aside0.mk (lay_calls a s lb 1024 f W1.drew (HM.out.of_block (B1.out.block lb HM.out.lt)) ha.1 ha.2 hsz (by omega))
      clear hsz ha
      go_region_with (go_at_call 24; refine HL.out.mono ?_; rintro e w3 ⟨rfl, hm3, hf3⟩; have M3 := Aside0.mk hm3; have F3 := Aside0.mk hf3; clear hm3 hf3)
      all_goals
        have F5 : Aside0 (Fr w w3 (· = lb)) := ⟨(HF.out.trans (Fr.of_below B1.out (· = lb)) (fun _ h => .inl h)).trans ⟨F3.out.os, F3.out.tape, F3.out.output, F3.out.size, F3.out.block⟩ (fun _ h => .inl h)⟩
        have E5 : Aside0 (flushF (layW f (a, s) 1024) (d.q.drop (i + 1)) = flushF d.la d.q) := ⟨by rw [← HE.out, flush_step f d.q i hlt, HX.out]⟩
        clear HF HE F3 HL
        go_wp2_with fail
        go_roundw
        case rel => exact ⟨i + 1, _, by omega, by simp, M3, E5, F5⟩
        case measure => simp [intOf]; omega
    · obtain rfl : i = d.q.length := by omega
      have HN : Aside0 (db ≠ lb) := ⟨H.out.db_ne.1⟩
      have D3 : Aside0 (wr.heap[db]? = some (.cells #[.int .i64 d.n, .map (some lb), .map (some sb), .slice A d.q.length c] 56 (0, 0))) := ⟨(HF.out.block db (blk_lt H.out.dev) HN.out).trans H.out.dev⟩
      have c3' := (blk_cell D3.out 3).trans (Eq.refl (some (Value.slice A d.q.length c)))
      have f3' := blk_frozen D3.out 3
      go_wp2_with fail
      first | go_end0 | refine bodyPost_ret (results_none rfl _ _ _) rfl ?_
      have E6 : vs f = vs (flushF d.la d.q) := by
        have := HE.out
        rw [List.drop_length] at this
        rw [← this]
        rfl
      refine ⟨sb, .slice none 0 0, rfl, ⟨?_, own_nil _ _ _ _, ?_, ?_, H.out.bd, H.out.bl, H.out.bs, H.out.ne, wf_flush H.out.wf⟩, ⟨?_, ?_, ?_, ?_, ?_⟩, ?_⟩
      · simpa [dFlush] using blk_set D3.out 3 (.slice none 0 0)
      · have h2 := HM.out
        rw [E6] at h2
        exact h2.of_block (Below.heap_setCell wr ⟨db, 3, none⟩ _ lb (Ne.symm HN.out))
      · exact (H.out.se.of_block (HF.out.block sb H.out.se.lt (Ne.symm H.out.ne))).of_block (Below.heap_setCell wr ⟨db, 3, none⟩ _ sb (Ne.symm H.out.db_ne.2))
      · exact HF.out.os
      · exact HF.out.tape
      · exact HF.out.output
      · have := HF.out.size; simp only [World.setCell, Array.size_modify]; omega
      · intro k hk hf
        exact (Below.heap_setCell wr ⟨db, 3, none⟩ _ k (fun e => hf (.inl e))).trans (HF.out.block k hk (fun e => hf (.inr (.inl e))))
      · rintro k (h | h | h | h)
        · exact .inl (.inl h)
        · exact .inl (.inr (.inl h))
        · exact .inl (.inr (.inr (.inl h)))
        · simp [Value.ownBlock] at h
set_option maxRecDepth 100000 in
theorem flush_nil (w : World) : Calls Try.prog 18 #[.pointer none] w fun e w' => e = .returned (.tuple #[]) ∧ w' = w := by
  have hup := Try.underlying24
  go_enter Try.func18, Try.ntmps18
  go_wp2
  first | go_end0 | refine bodyPost_ret (results_none rfl _ _ _) rfl ?_
  exact ⟨rfl, rfl⟩
end
end Go.Proofs.Ytobhnababkpcbaa.Dev
