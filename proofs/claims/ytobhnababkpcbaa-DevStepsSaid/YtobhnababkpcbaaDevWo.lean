/- A device in memory: a write that is right. -/
import Derived.Test.YtobhnababkpcbaaDevW
set_option linter.unusedVariables false
set_option linter.unusedSimpArgs false
namespace Go.Proofs.Ytobhnababkpcbaa.Dev
open Go.RowKit Go.Proofs.YtobhnababkpcbaaW.PrintWords Go.Proofs.YtobhnababkpcbaaW.PrintLast Go.Proofs.YtobhnababkpcbaaW.PrintMore Go.Proofs.Ytobhnababkpcbaa.Maps Go.Proofs.Ytobhnababkpcbaa.DevS Go.Proofs.Ytobhnababkpcbaa.Given

theorem info58 : (Try.prog.info? 58).map (fun i => (i.zero, i.size, i.bytes)) = some (some (.agg #[.int .i64 0, .string ⟨#[]⟩]), 2, 24) := by kernel_rfl
theorem info58' : ∃ i0, Try.prog.info? 58 = some i0 ∧ i0.zero = some (.agg #[.int .i64 0, .string ⟨#[]⟩]) ∧ i0.size = 2 ∧ i0.bytes = 24 := by
  obtain ⟨i0, hi, h2⟩ := Option.map_eq_some_iff.1 info58
  simp only [Prod.mk.injEq] at h2
  exact ⟨i0, hi, h2.1, h2.2.1, h2.2.2⟩
section
variable {B db lb sb : Nat} {v : Value} {d : D} {w w' : World} {a : Int} {s : ByteArray}
theorem DevIs.row_ne (h : DevIs B w db lb sb v d) : v.ownBlock ≠ some db ∧ v.ownBlock ≠ some lb ∧ v.ownBlock ≠ some sb := by
  rcases h.row.2 with ⟨rfl, _⟩ | ⟨g, cap, cur, rfl, _, hg, _⟩
  · simp [Value.ownBlock]
  · refine ⟨?_, ?_, ?_⟩ <;> intro e <;> have e2 : g = _ := (by simpa [Value.ownBlock] using e) <;> subst e2
    · have := h.dev; rw [hg] at this; simp at this
    · obtain ⟨es, c, l, h1, _⟩ := h.la; rw [hg] at h1; simp at h1
    · obtain ⟨es, c, l, h1, _⟩ := h.se; rw [hg] at h1; simp at h1
theorem DevIs.db_ne (h : DevIs B w db lb sb v d) : db ≠ lb ∧ db ≠ sb := by
  refine ⟨?_, ?_⟩ <;> rintro rfl
  · obtain ⟨es, c, l, h1, _⟩ := h.la; rw [h.dev] at h1; simp at h1
  · obtain ⟨es, c, l, h1, _⟩ := h.se; rw [h.dev] at h1; simp at h1
theorem write_done {W1 w3 X w4 : World} {se' : F} {g cap : Nat} (H1 : DevIs B W1 db lb sb v d) (F3 : Fr W1 w3 (· = sb)) (M3 : MapF w3 kp sb (vs se')) (hX : Below w3.heap.size w3 X) (hg : X.grownBy w4 v.ownBlock)
    (hown : w4.ownsRow B 58 2 (.slice (some ⟨g, 0, none⟩) (d.q.length + 1) cap) (d.q.length + 1) (wv d.q ++ [.int .i64 a, .string s])) (hat : v.ownBlock = some g ∨ w3.heap.size ≤ g) (hwf : Wf { d with se := se', q := d.q ++ [(a, s)] }) :
    DevIs B (w4.setCell ⟨db, 3, none⟩ (.slice (some ⟨g, 0, none⟩) (d.q.length + 1) cap)) db lb sb (.slice (some ⟨g, 0, none⟩) (d.q.length + 1) cap) { d with se := se', q := d.q ++ [(a, s)] } ∧
    Fr W1 (w4.setCell ⟨db, 3, none⟩ (.slice (some ⟨g, 0, none⟩) (d.q.length + 1) cap)) (fp db lb sb v) ∧ ∀ k, fp db lb sb (.slice (some ⟨g, 0, none⟩) (d.q.length + 1) cap) k → fp db lb sb v k ∨ W1.heap.size ≤ k := by
  obtain ⟨n1, n2, n3⟩ := H1.row_ne
  obtain ⟨m1, m2⟩ := H1.db_ne
  have l1 := blk_lt H1.dev
  have l2 := H1.la.lt
  have l3 := H1.se.lt
  have z3 := F3.size
  have zX := hX.size
  have up : ∀ k, k < W1.heap.size → k ≠ sb → v.ownBlock ≠ some k → w4.heap[k]? = W1.heap[k]? := fun k hk h1 h2 =>
    ((hg.block k (by omega) (fun e => h2 e.symm)).trans (hX.block k (by omega))).trans (F3.block k hk h1)
  have gdb : g ≠ db := by
    rintro rfl
    rcases hat with h | h
    · exact n1 h
    · omega
  have gsb : g ≠ sb := by
    rintro rfl
    rcases hat with h | h
    · exact n3 h
    · omega
  have P4 : w4.heap[db]? = some (.cells #[.int .i64 d.n, .map (some lb), .map (some sb), v] 56 (0, 0)) := (up db l1 m2 n1).trans H1.dev
  have set : ∀ k, k ≠ db → (w4.setCell ⟨db, 3, none⟩ (.slice (some ⟨g, 0, none⟩) (d.q.length + 1) cap)).heap[k]? = w4.heap[k]? := fun k hk => Below.heap_setCell w4 ⟨db, 3, none⟩ _ k hk
  refine ⟨⟨by simpa using blk_set P4 3 (.slice (some ⟨g, 0, none⟩) (d.q.length + 1) cap), ?_, ?_, ?_, H1.bd, H1.bl, H1.bs, H1.ne, hwf⟩, ⟨?_, ?_, ?_, ?_, ?_⟩, ?_⟩
  · have e1 : (d.q ++ [(a, s)]).length = d.q.length + 1 := by simp
    have e2 : wv (d.q ++ [(a, s)]) = wv d.q ++ [.int .i64 a, .string s] := by unfold wv; simp
    show World.ownsRow _ B _ 2 _ (d.q ++ [(a, s)]).length (wv (d.q ++ [(a, s)]))
    rw [e1, e2]
    exact hown.kept (row := some db) ⟨rfl, rfl, rfl, by simp [World.setCell], fun k hk hne => set k (by simpa using hne)⟩ (.inr (by simpa [Value.ownBlock] using gdb))
  · exact (H1.la.of_block ((set lb (Ne.symm m1)).trans (up lb l2 H1.ne n2)))
  · refine M3.of_block ((set sb (Ne.symm m2)).trans ((hg.block sb (by have := M3.lt; omega) (fun e => n3 e.symm)).trans (hX.block sb M3.lt)))
  · exact ((hg.os.trans hX.os).trans F3.os)
  · exact ((hg.tape.trans hX.tape).trans F3.tape)
  · exact ((hg.output.trans hX.output).trans F3.output)
  · have := hg.size; simp only [World.setCell, Array.size_modify]; omega
  · intro k hk hf
    exact (set k (fun e => hf (.inl e))).trans (up k hk (fun e => hf (.inr (.inr (.inl e)))) (fun e => hf (.inr (.inr (.inr e)))))
  · rintro k (h | h | h | h)
    · exact .inl (.inl h)
    · exact .inl (.inr (.inl h))
    · exact .inl (.inr (.inr (.inl h)))
    · have e : g = k := by simpa [Value.ownBlock] using h
      subst e
      rcases hat with h | h
      · exact .inl (.inr (.inr (.inr h)))
      · exact .inr (by omega)
def WritePost (B db lb sb : Nat) (v : Value) (w : World) (d' : D) (e : Value) (en : Ending) (w' : World) : Prop :=
  ∃ sb' v', en = .returned e ∧ DevIs B w' db lb sb' v' d' ∧ Fr w w' (fp db lb sb v) ∧ ∀ k, fp db lb sb' v' k → fp db lb sb v k ∨ w.heap.size ≤ k
set_option maxHeartbeats 3200000 in
set_option maxRecDepth 100000 in
theorem write_ok (h : DevIs B w db lb sb v d) (hB : B ≤ w.heap.size) (hs : s.size ≤ 1048576) (hql : d.q.length ≤ 1000000) (hf : formOk s) (hp : placeOk d.n a s) :
    Calls Try.prog 10 #[ptr db, .int .i64 a, .string s] w (WritePost B db lb sb v w { d with se := layF d.se a s (s.size / 128), q := d.q ++ [(a, s)] } (.int .i64 0)) := by
  have hu := Try.underlying56
  have hup := Try.underlying24
  have huw := Try.underlying58
  have b0 := sz_ne hf.1
  have b1 : ((s.size : Int) % 128 != 0) = false := by
    have h2 := hf.2
    have : (s.size : Int) % 128 = 0 := by omega
    simpa using this
  obtain ⟨m, hm⟩ : ∃ m : Nat, m = s.size / 128 := ⟨_, rfl⟩
  have HmI : Aside0 ((s.size : Int) / 128 = (m : Int)) := ⟨by omega⟩
  have HM := Aside0.mk hm
  have hpp := hp
  unfold placeOk at hp
  rw [← hm] at hp
  have hn := h.wf.1
  have c1 : decide (a < 0) = false := decide_eq_false (by omega)
  have c2 : decide (d.n < m) = false := decide_eq_false (by omega)
  have w1 : IntKind.i64.wrap ((d.n : Int) - (m : Int)) = (d.n : Int) - (m : Int) := IntWalk.i64_in _ (by omega)
  have c3 : decide (a > (d.n : Int) - (m : Int)) = false := decide_eq_false (by omega)
  have HQ := Aside0.mk (blocks_calls h)
  have HA : Aside0 (0 ≤ a ∧ a ≤ 1048576 ∧ m ≤ 1048576) := ⟨by omega, by omega, by omega⟩
  have P1 := Aside0.mk (blk_new w (.cells #[.int .i64 a, .string s] 58))
  have B1 := Aside0.mk (below_alloc (Below.refl w.heap.size w) (.cells #[.int .i64 a, .string s] 58))
  have H := Aside0.mk h
  have HF := Aside0.mk hf
  have HP := Aside0.mk hpp
  clear h hm hp hpp hf
  unfold ptr at *
  go_enter Try.func10, Try.ntmps10
  go_wp2_with fail
  rw [HmI.out]
  refine HQ.out.mono ?_
  rintro e w1 ⟨rfl, rfl⟩
  go_wp2_with fail
  refine HQ.out.mono ?_
  rintro e w2 ⟨rfl, rfl⟩
  go_wp2_with fail
  generalize hW : w2.alloc (.cells #[.int .i64 a, .string s] 58) = W1 at P1 B1 ⊢
  clear hW
  generalize hg : w2.heap.size = g1 at P1 ⊢
  have HG := Aside0.mk hg
  clear hg
  have H1 := Aside0.mk (H.out.below B1.out)
  have p0 := (blk_cell P1.out 0).trans (Eq.refl (some (Value.int .i64 a)))
  have p1 := (blk_cell P1.out 1).trans (Eq.refl (some (Value.string s)))
  have d2 := H1.out.c2
  have HL := Aside0.mk (lay_calls a s sb m d.se W1.drew (H1.out.se.of_block rfl) HA.out.1 HA.out.2.1 hs HA.out.2.2)
  go_region_with (go_at_call 24; refine HL.out.mono ?_; rintro e w3 ⟨rfl, hm3, hf3⟩; have M3 := Aside0.mk hm3; have F3 := Aside0.mk hf3; clear hm3 hf3)
  all_goals go_wp2_with fail
  all_goals
    have F4 : Aside0 (Fr W1 w3 (· = sb)) := ⟨⟨F3.out.os, F3.out.tape, F3.out.output, F3.out.size, F3.out.block⟩⟩
    have HN : Aside0 (db ≠ sb ∧ g1 ≠ sb ∧ v.ownBlock ≠ some sb ∧ v.ownBlock ≠ some db ∧ B ≤ w3.heap.size) := ⟨H.out.db_ne.2, by have := H.out.se.lt; have := HG.out; omega, H.out.row_ne.2.2, H.out.row_ne.1, by have := F4.out.size; have := B1.out.size; omega⟩
    have D3 : Aside0 (w3.heap[db]? = some (.cells #[.int .i64 d.n, .map (some lb), .map (some sb), v] 56 (0, 0))) := ⟨(F4.out.block db (blk_lt H1.out.dev) HN.out.1).trans H1.out.dev⟩
    have G3 : Aside0 (w3.heap[g1]? = some (.cells #[.int .i64 a, .string s] 58 (0, 0))) := ⟨(F4.out.block g1 (blk_lt P1.out) HN.out.2.1).trans P1.out⟩
    have R3 : Aside0 (w3.ownsRow B 58 2 v d.q.length (wv d.q)) := ⟨H1.out.row.kept (row := some sb) ⟨F4.out.os, F4.out.tape, F4.out.output, F4.out.size, fun k hk hne => F4.out.block k hk (by simpa using hne)⟩ (.inr HN.out.2.2.1)⟩
    clear p0 p1 d2 F3
    have p0 := (blk_cell G3.out 0).trans (Eq.refl (some (Value.int .i64 a)))
    have p1 := (blk_cell G3.out 1).trans (Eq.refl (some (Value.string s)))
    have d3 := (blk_cell D3.out 3).trans (Eq.refl (some v))
    obtain ⟨i0, hi, hz0, hz1, hz2⟩ := info58'
    have hca : ∀ o, (w3.alloc o).cell? ⟨db, 3, none⟩ = some v := fun o => (blk_cell (w := w3.alloc o) ((Below.heap_alloc w3 o db (blk_lt D3.out)).trans D3.out) 3).trans rfl
    have HBS : Aside0 (∀ o, Below w3.heap.size w3 (w3.alloc o).drew) := ⟨fun o => below_drew1 (below_alloc (Below.refl _ _) o)⟩
    have hql2 : (d.q.length + 1) * 24 ≤ 140737488355328 := by omega
    go_region_law (refine step_append_lies _ rfl (.tmp 50) (.tmp 52) 54 rfl B 58 i0 (.agg #[.int .i64 0, .string ⟨#[]⟩]) 2 24 Try.underlying54 hi hz0 hz1 hz2 rfl (by decide) _ _ _ rfl ((R3.out.alloc _).drew) ⟨w3.heap.size, 0, none⟩ 1 1 [.int .i64 a, .string s] rfl rfl (World.news_of_block (cs := #[.int .i64 a, .string s]) (t := 58) (fr := (0, 0)) (heap_alloc_new w3 _)) (by simp [Value.oneCell']) (by omega) (by simp only [maxLen]; omega) hql2 (by have := HN.out.2.2.2.2; simp; omega) _ rfl ?_; intro g2 cap w4 hown hgrow hat hlt; have A1 := Aside0.mk hown; have A2 := Aside0.mk hgrow; have A3 := Aside0.mk hat; have dd4 := (hgrow.block db (by have := blk_lt D3.out; simp; omega) (fun e => HN.out.2.2.2.1 e.symm)).trans ((Below.heap_alloc w3 _ db (blk_lt D3.out)).trans D3.out); have hc4 := (blk_cell dd4 3).trans (Eq.refl (some v)); have hf4 := blk_frozen dd4 3; clear hown hgrow hat hlt dd4)
    all_goals
      have hwf : Wf { d with se := layF d.se a s (s.size / 128), q := d.q ++ [(a, s)] } := by
        have := wf_write H1.out.wf a s
        unfold dWrite at this
        rwa [if_neg (fun e => e HF.out), if_neg (fun e => e HP.out)] at this
      have M3' : MapF w3 kp sb (vs (layF d.se a s (s.size / 128))) := by
        have := M3.out
        rwa [HM.out, Nat.min_self] at this
      have A3' : v.ownBlock = some g2 ∨ w3.heap.size ≤ g2 := by
        rcases A3.out with h | h
        · exact .inl h
        · exact .inr (by rw [h]; simp)
      obtain ⟨r1, r2, r3⟩ := write_done H1.out F4.out M3' (HBS.out _) A2.out A1.out A3' hwf
      have Q1 := Aside0.mk r1
      have Q2 := Aside0.mk r2
      have Q3 := Aside0.mk r3
      clear r1 r2 r3 hwf M3' A3' hca
      go_wp2_with fail
      go_ret
      exact ⟨sb, _, rfl, Q1.out, Fr.trans (Fr.of_below B1.out (fp db lb sb v)) Q2.out (fun _ h => .inl h), fun k hk => (Q3.out k hk).imp id (fun h => Nat.le_trans B1.out.size h)⟩
theorem write_calls (h : DevIs B w db lb sb v d) (hB : B ≤ w.heap.size) (hs : s.size ≤ 1048576) (hql : d.q.length ≤ 1000000) :
    Calls Try.prog 10 #[ptr db, .int .i64 a, .string s] w (WritePost B db lb sb v w (dWrite d a s).1 (.int .i64 (dWrite d a s).2)) := by
  unfold dWrite
  by_cases hf : formOk s
  · rw [if_neg (fun e => e hf)]
    by_cases hp : placeOk d.n a s
    · rw [if_neg (fun e => e hp)]
      exact write_ok h hB hs hql hf hp
    · rw [if_pos hp]
      refine (write_place (ptr db) d.n w a s (blocks_calls h) h.wf.1 hs hf hp).mono ?_
      rintro e w' ⟨rfl, hb⟩
      exact ⟨sb, v, rfl, h.below hb, Fr.of_below hb _, fun _ hk => .inl hk⟩
  · rw [if_pos hf]
    refine (write_form (ptr db) w a s hs hf).mono ?_
    rintro e w' ⟨rfl, hb⟩
    exact ⟨sb, v, rfl, h.below hb, Fr.of_below hb _, fun _ hk => .inl hk⟩
end
end Go.Proofs.Ytobhnababkpcbaa.Dev
