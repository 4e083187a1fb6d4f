/- The document's device: a write that is right. -/
import Derived.Test.YtobhnababkpcbaaRefDevN
set_option linter.unusedVariables false
set_option linter.unusedSimpArgs false
namespace Go.Proofs.Ytobhnababkpcbaa.Dev
open Go.RowKit Go.Proofs.YtobhnababkpcbaaW.PrintWords Go.Proofs.YtobhnababkpcbaaW.PrintLast Go.Proofs.YtobhnababkpcbaaW.PrintMore Go.Proofs.Ytobhnababkpcbaa.Maps Go.Proofs.Ytobhnababkpcbaa.DevS Go.Proofs.Ytobhnababkpcbaa.Given
theorem info65 : (Try.prog.info? 65).map (fun i => (i.zero, i.size, i.bytes)) = some (some (.agg #[.int .i64 0, .string ⟨#[]⟩]), 2, 24) := by kernel_rfl
def RefPost (B eb : Nat) (v1 v2 : Value) (w : World) (d' : D) (e : Value) (en : Ending) (w' : World) : Prop :=
  ∃ v1' v2', en = .returned e ∧ RefIs B w' eb v1' v2' d' ∧ Fr w w' (fr eb v1 v2) ∧ ∀ k, fr eb v1' v2' k → fr eb v1 v2 k ∨ w.heap.size ≤ k
section
variable {B eb : Nat} {v1 v2 : Value} {d : D} {w w' : World} {a : Int} {s : ByteArray}
theorem RefIs.eb_ne (h : RefIs B w eb v1 v2 d) : v1.ownBlock ≠ some eb ∧ v2.ownBlock ≠ some eb ∧ (∀ k, v1.ownBlock = some k → v2.ownBlock ≠ some k) := by
  refine ⟨?_, ?_, ?_⟩
  · rcases h.row.2 with ⟨rfl, _⟩ | ⟨g, cap, cur, rfl, _, hg, _⟩
    · simp [Value.ownBlock]
    · intro e
      have e2 : g = eb := by simpa [Value.ownBlock] using e
      subst e2
      have := h.dev; rw [hg] at this; simp at this
  · rcases h.que.2 with ⟨rfl, _⟩ | ⟨g, cap, cur, rfl, _, hg, _⟩
    · simp [Value.ownBlock]
    · intro e
      have e2 : g = eb := by simpa [Value.ownBlock] using e
      subst e2
      have := h.dev; rw [hg] at this; simp at this
  · intro k hk hk2
    rcases h.row.2 with ⟨rfl, _⟩ | ⟨g, cap, cur, rfl, _, hg, _⟩
    · simp [Value.ownBlock] at hk
    · rcases h.que.2 with ⟨rfl, _⟩ | ⟨g', cap', cur', rfl, _, hg', _⟩
      · simp [Value.ownBlock] at hk2
      · have e1 : g = k := by simpa [Value.ownBlock] using hk
        have e2 : g' = k := by simpa [Value.ownBlock] using hk2
        subst e1
        subst e2
        rw [hg] at hg'
        simp at hg'
/-- Behind a right write: the document's device says the same, whatever is seen. -/
theorem ref_done {w4 : World} {v2' : Value} {se' : F} (h : RefIs B w eb v1 v2 d) (hB : B ≤ w.heap.size) (hb : Below B w w4 ∧ w.grownBy w4 v2.ownBlock) (hown : w4.ownsRow B 65 2 v2' (d.q.length + 1) (wv d.q ++ [.int .i64 a, .string s])) (hat : v2'.ownBlock = v2.ownBlock ∨ ∃ b, v2'.ownBlock = some b ∧ w.heap.size ≤ b) (hwf : Wf { d with se := se', q := d.q ++ [(a, s)] }) :
    RefIs B (w4.setCell ⟨eb, 1, none⟩ v2') eb v1 v2' { d with se := se', q := d.q ++ [(a, s)] } ∧ Fr w (w4.setCell ⟨eb, 1, none⟩ v2') (fr eb v1 v2) ∧ ∀ k, fr eb v1 v2' k → fr eb v1 v2 k ∨ w.heap.size ≤ k := by
  obtain ⟨n1, n2, n3⟩ := h.eb_ne
  have hg := hb.2
  have le := blk_lt h.dev
  have P4 : w4.heap[eb]? = some (.cells #[v1, v2] 47 (0, 0)) := (hg.block eb le (fun e => n2 e.symm)).trans h.dev
  have set : ∀ k, k ≠ eb → (w4.setCell ⟨eb, 1, none⟩ v2').heap[k]? = w4.heap[k]? := fun k hk => Below.heap_setCell w4 ⟨eb, 1, none⟩ _ k hk
  have v2ne : v2'.ownBlock ≠ some eb := by
    rcases hat with h1 | ⟨b, h1, h2⟩
    · rw [h1]; exact n2
    · rw [h1]
      intro e
      have : b = eb := by simpa using e
      omega
  refine ⟨⟨by simpa using blk_set P4 1 v2', own_same h.row (fun k hk => (set k (fun e => n1 (e ▸ hk))).trans (hg.block k (own_lt h.row k hk) (fun e => n3 k hk e.symm))), ?_, h.be, hwf, h.full⟩, ⟨hg.os, hg.tape, hg.output, by have := hg.size; simp only [World.setCell, Array.size_modify]; omega, fun k hk hf => (set k (fun e => hf (.inl e))).trans (hg.block k hk (fun e => hf (.inr (.inr e.symm))))⟩, ?_⟩
  · have e1 : (d.q ++ [(a, s)]).length = d.q.length + 1 := by simp
    have e2 : wv (d.q ++ [(a, s)]) = wv d.q ++ [.int .i64 a, .string s] := by unfold wv; simp
    show World.ownsRow _ B _ 2 _ (d.q ++ [(a, s)]).length (wv (d.q ++ [(a, s)]))
    rw [e1, e2]
    exact own_same hown (fun k hk => set k (fun e => v2ne (e ▸ hk)))
  · rintro k (e | e | e)
    · exact .inl (.inl e)
    · exact .inl (.inr (.inl e))
    · rcases hat with h1 | ⟨b, h1, h2⟩
      · exact .inl (.inr (.inr (h1 ▸ e)))
      · rw [h1] at e
        have : b = k := by simpa using e
        exact .inr (by omega)
set_option maxHeartbeats 3200000 in
set_option maxRecDepth 100000 in
theorem ref_write_ok (h : RefIs B w eb v1 v2 d) (hB : B ≤ w.heap.size) (hs : s.size ≤ 1048576) (hql : d.q.length ≤ 1000000) (hf : formOk s) (hp : placeOk d.n a s) :
    Calls Try.prog 17 #[ptr eb, .int .i64 a, .string s] w (RefPost B eb v1 v2 w { d with se := layF d.se a s (s.size / 128), q := d.q ++ [(a, s)] } (.int .i64 0)) := by
  have hu := Try.underlying47
  have hup := Try.underlying38
  have huw := Try.underlying65
  have hwf : Wf { d with se := layF d.se a s (s.size / 128), q := d.q ++ [(a, s)] } := by
    have := wf_write h.wf a s
    unfold dWrite at this
    rwa [if_neg (fun e => e hf), if_neg (fun e => e hp)] at this
  have HWF := Aside0.mk hwf
  clear hwf
  have b0 := sz_ne hf.1
  have hz2 : s.size % 128 = 0 := hf.2
  have hz : s.size ≠ 0 := hf.1
  have b1 : ((s.size : Int) % 128 != 0) = false := by
    have : (s.size : Int) % 128 = 0 := by omega
    simpa using this
  have H := Aside0.mk h
  obtain ⟨A, c, hv1⟩ := own_slice h.row
  have c0 := h.c0
  have c1 := h.c1
  have hnn := h.wf.1
  have hlc := blk_lt h.dev
  clear h
  subst hv1
  obtain ⟨m, hm⟩ : ∃ m : Nat, m = s.size / 128 := ⟨_, rfl⟩
  have hp0 : 0 ≤ a := hp.1
  have hp1 : a ≤ (d.n : Int) - (m : Nat) := by rw [hm]; exact hp.2.2
  have hm1 : 1 ≤ m := by omega
  have k1 : decide (a < 0) = false := decide_eq_false (by omega)
  have k2 : decide (a ≥ (d.n : Int)) = false := decide_eq_false (by omega)
  have w1 : IntKind.i64.wrap ((d.n : Int) - a) = (d.n : Int) - a := IntWalk.i64_in _ (by omega)
  have k4 : decide ((s.size : Int) / 128 > (d.n : Int) - a) = false := decide_eq_false (by omega)
  have hml : (d.q.length + 1) * 24 ≤ 140737488355328 := by omega
  have f1 : ∀ o, (w.alloc o).frozen? ⟨eb, 1, none⟩ = false := fun o => blk_frozen ((Below.heap_alloc w o eb hlc).trans H.out.dev) 1
  clear hz hz2 hm hp hf hp0 hp1
  unfold ptr
  go_enter Try.func17, Try.ntmps17
  go_wp2_with (at_builtin; refine print_append_cells B rfl (.tmp 45) (.tmp 49) 45 65 (.agg #[.int .i64 0, .string ⟨#[]⟩]) 2 24 rfl Try.underlying45 info65 rfl (by decide) (by decide) _ _ _ [.int .i64 a, .string s] rfl rfl rfl (by intro u hu; simp at hu; rcases hu with rfl | rfl <;> rfl) H.out.que (Below.refl B w) hB hml ?_; intro v6 w6 hr6 hb6 hg6 hat6; obtain ⟨A6, cc6, rfl⟩ := own_slice hr6; have hd6 := (hg6.block eb hlc (fun e => H.out.eb_ne.2.1 e.symm)).trans H.out.dev; have hc6 := (blk_cell hd6 1).trans (Eq.refl (some v2)); have hf6 := blk_frozen hd6 1; have R := Aside0.mk (ref_done H.out hB ⟨hb6, hg6⟩ hr6 hat6 HWF.out); clear hr6 hb6 hg6 hat6 hd6)
  go_ret
  exact ⟨_, _, rfl, R.out.1, R.out.2.1, R.out.2.2⟩
theorem ref_write (h : RefIs B w eb v1 v2 d) (hB : B ≤ w.heap.size) (hs : s.size ≤ 1048576) (hql : d.q.length ≤ 1000000) :
    Calls Try.prog 17 #[ptr eb, .int .i64 a, .string s] w (RefPost B eb v1 v2 w (dWrite d a s).1 (.int .i64 (dWrite d a s).2)) := by
  unfold dWrite
  by_cases hf : formOk s
  · rw [if_neg (fun e => e hf)]
    by_cases hp : placeOk d.n a s
    · rw [if_neg (fun e => e hp)]
      exact ref_write_ok h hB hs hql hf hp
    · rw [if_pos hp]
      refine (ref_write_place h hs hf hp).mono ?_
      rintro e w' ⟨rfl, hb⟩
      exact ⟨v1, v2, rfl, h.below hb, Fr.of_below hb _, fun _ hk => .inl hk⟩
  · rw [if_pos hf]
    refine (ref_write_form (ptr eb) w a s hs hf).mono ?_
    rintro e w' ⟨rfl, hb⟩
    exact ⟨v1, v2, rfl, h.below hb, Fr.of_below hb _, fun _ hk => .inl hk⟩
end
end Go.Proofs.Ytobhnababkpcbaa.Dev
