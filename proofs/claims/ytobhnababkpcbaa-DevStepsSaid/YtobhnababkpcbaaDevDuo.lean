/- A device and the document's device side by side: the law's own 'same'. -/
import Derived.Test.YtobhnababkpcbaaRefDevY
set_option linter.unusedVariables false
set_option linter.unusedSimpArgs false
namespace Go.Proofs.Ytobhnababkpcbaa.Dev
open Go.RowKit Go.Proofs.YtobhnababkpcbaaW.PrintWords Go.Proofs.YtobhnababkpcbaaW.PrintLast Go.Proofs.YtobhnababkpcbaaW.PrintMore Go.Proofs.Ytobhnababkpcbaa.Maps Go.Proofs.Ytobhnababkpcbaa.DevS Go.Proofs.Ytobhnababkpcbaa.Given Go.Proofs.Ytobhnababkpcbaa.Open
section
variable {db eb : Nat} {W w w' : World} {d x d' : D} {e : Value} {en : Ending}
structure Duo (W w : World) (db eb : Nat) (d x : D) : Prop where
  two : ∃ (lb sb : Nat) (v v1 v2 : Value), DevIs W.heap.size w db lb sb v d ∧ RefIs W.heap.size w eb v1 v2 x ∧ ∀ k, fp db lb sb v k → ¬ fr eb v1 v2 k
  bel : Below W.heap.size W w
theorem RefIs.step_apart {B g : Nat} {v1 v2 : Value} {cs : Array Value} (hd : RefIs B w eb v1 v2 d) (hg : w.heap[g]? = some (.cells cs 30 (0, 0))) (hk : fr eb v1 v2 g) : False := by
  rcases hk with rfl | hk | hk
  · have := hd.dev; rw [hg] at this; simp at this
  · rcases hd.row.2 with ⟨rfl, _⟩ | ⟨g', cap', cur', rfl, _, hg', _⟩
    · simp [Value.ownBlock] at hk
    · have e3 : g' = g := by simpa [Value.ownBlock] using hk
      subst e3
      rw [hg] at hg'
      simp at hg'
  · rcases hd.que.2 with ⟨rfl, _⟩ | ⟨g', cap', cur', rfl, _, hg', _⟩
    · simp [Value.ownBlock] at hk
    · have e3 : g' = g := by simpa [Value.ownBlock] using hk
      subst e3
      rw [hg] at hg'
      simp at hg'
theorem Duo.below (h : Duo W w db eb d x) (hb : Below w.heap.size w w') : Duo W w' db eb d x := by
  obtain ⟨lb, sb, v, v1, v2, h1, h2, h3⟩ := h.two
  refine ⟨⟨lb, sb, v, v1, v2, h1.below hb, h2.below hb, h3⟩, h.bel.trans (hb.mono h.bel.size)⟩
theorem Duo.left (h : Duo W w db eb d x) {R : Ending → World → Prop} {fn : Nat} {args : Array Value} (hc : ∀ lb sb v, DevIs W.heap.size w db lb sb v d → (∀ k, fp db lb sb v k → W.heap.size ≤ k) → Calls Try.prog fn args w (WritePost W.heap.size db lb sb v w d' e))
    (hR : ∀ w', Duo W w' db eb d' x → w.heap.size ≤ w'.heap.size → (∀ (g : Nat) (cs : Array Value), w.heap[g]? = some (Obj.cells cs 30 (0, 0)) → w'.heap[g]? = some (Obj.cells cs 30 (0, 0))) → R (.returned e) w') : Calls Try.prog fn args w R := by
  obtain ⟨lb, sb, v, v1, v2, h1, h2, h3⟩ := h.two
  refine (hc lb sb v h1 (fun k hk => h1.fp_ge hk)).mono ?_
  rintro en w' ⟨sb', v', rfl, g1, g2, g3⟩
  refine hR w' ⟨⟨lb, sb', v', v1, v2, g1, h2.fr' g2 (fun k hk hk2 => h3 k hk2 hk), fun k hk hk2 => ?_⟩, Fr.below h.bel g2 (fun k hk => h1.fp_ge hk) h.bel.size⟩ g2.size (fun g cs hg => (g2.block g (blk_lt hg) (fun hk => h1.step_apart hg hk)).trans hg)
  rcases g3 k hk with hh | hh
  · exact h3 k hh hk2
  · have := h2.fr_lt hk2; omega
theorem Duo.right (h : Duo W w db eb d x) {R : Ending → World → Prop} {fn : Nat} {args : Array Value} (hc : ∀ v1 v2, RefIs W.heap.size w eb v1 v2 x → (∀ k, fr eb v1 v2 k → W.heap.size ≤ k) → Calls Try.prog fn args w (RefPost W.heap.size eb v1 v2 w d' e))
    (hR : ∀ w', Duo W w' db eb d d' → w.heap.size ≤ w'.heap.size → (∀ (g : Nat) (cs : Array Value), w.heap[g]? = some (Obj.cells cs 30 (0, 0)) → w'.heap[g]? = some (Obj.cells cs 30 (0, 0))) → R (.returned e) w') : Calls Try.prog fn args w R := by
  obtain ⟨lb, sb, v, v1, v2, h1, h2, h3⟩ := h.two
  refine (hc v1 v2 h2 (fun k hk => h2.fr_ge hk)).mono ?_
  rintro en w' ⟨v1', v2', rfl, g1, g2, g3⟩
  refine hR w' ⟨⟨lb, sb, v, v1', v2', h1.fr g2 (fun k hk hk2 => h3 k hk hk2), g1, fun k hk hk2 => ?_⟩, Fr.below h.bel g2 (fun k hk => h2.fr_ge hk) h.bel.size⟩ g2.size (fun g cs hg => (g2.block g (blk_lt hg) (fun hk => h2.step_apart hg hk)).trans hg)
  rcases g3 k hk2 with hh | hh
  · exact h3 k hk hh
  · have := h1.fp_lt hk; omega
def InvD (d : D) : Prop := 1 ≤ d.n ∧ d.se = flushF d.la d.q
theorem invD_new {n : Nat} (h : 1 ≤ n) : InvD (dNew n) := ⟨h, rfl⟩
theorem invD_write (h : InvD d) (hw : Wf d) (a : Int) (s : ByteArray) : InvD (dWrite d a s).1 := by
  rcases write_cases d a s with ⟨_, e, hp⟩ | ⟨_, e⟩
  · rw [e]
    refine ⟨h.1, ?_⟩
    have hz : min 1024 (s.size / 128) = s.size / 128 := by have h1 := hp.2.1; have h2 := hw.1; omega
    show layF d.se a s (s.size / 128) = flushF d.la (d.q ++ [(a, s)])
    rw [flushF_append, ← h.2]
    unfold layW
    show _ = layF d.se a s (min 1024 (s.size / 128))
    rw [hz]
  · rw [e]; exact h
theorem invD_flush (h : InvD d) : InvD (dFlush d) := ⟨h.1, h.2⟩
theorem invD_crash (h : InvD d) (picks : List Bool) (torn : Int) : InvD (dCrash d picks torn).1 := by
  unfold dCrash
  split
  · exact h
  · split
    · exact h
    · exact ⟨h.1, rfl⟩
theorem Duo.wf (h : Duo W w db eb d x) : Wf d := by
  obtain ⟨lb, sb, v, v1, v2, h1, h2, h3⟩ := h.two
  exact h1.wf
set_option maxHeartbeats 1600000 in
set_option maxRecDepth 100000 in
theorem same_calls (h : Duo W w db eb d d) (hi : InvD d) (hql : d.q.length ≤ 1000000) (a : Int) : Calls Try.prog 23 #[ptr db, ptr eb, .int .i64 a] w fun e w' => e = .returned (.bool true) ∧ Below w.heap.size w w' := by
  obtain ⟨lb, sb, v, v1, v2, h1, h2, h3⟩ := h.two
  have H1 : Aside0 (∀ w3 : World, Below w.heap.size w w3 → Calls Try.prog 13 #[ptr db, .int .i64 a] w3 fun e w' => e = .returned (.tuple #[.string (dRead d a).1, .int .i64 (dRead d a).2]) ∧ Below w3.heap.size w3 w') := ⟨fun w3 hb => read_calls (h1.below hb) a⟩
  have H2 : Aside0 (∀ w3 : World, Below w.heap.size w w3 → Calls Try.prog 26 #[ptr eb, .int .i64 a] w3 fun e w' => e = .returned (.tuple #[.string (dRead d a).1, .int .i64 (dRead d a).2]) ∧ Below w3.heap.size w3 w') := ⟨fun w3 hb => ref_read (h2.below hb) hi.1 hi.2 hql a⟩
  have H3 : Aside0 (∀ w3 : World, Below w.heap.size w w3 → Calls Try.prog 14 #[ptr db, .int .i64 a] w3 fun e w' => e = .returned (.tuple #[.string (dLasts d a).1, .int .i64 (dLasts d a).2]) ∧ Below w3.heap.size w3 w') := ⟨fun w3 hb => lasts_calls (h1.below hb) a⟩
  have H4 : Aside0 (∀ w3 : World, Below w.heap.size w w3 → Calls Try.prog 27 #[ptr eb, .int .i64 a] w3 fun e w' => e = .returned (.tuple #[.string (dLasts d a).1, .int .i64 (dLasts d a).2]) ∧ Below w3.heap.size w3 w') := ⟨fun w3 hb => ref_lasts (h2.below hb) hi.1 a⟩
  clear h h1 h2 h3 hi hql
  generalize (dRead d a).1 = s1 at H1 H2
  generalize (dRead d a).2 = r1 at H1 H2
  generalize (dLasts d a).1 = s2 at H3 H4
  generalize (dLasts d a).2 = r2 at H3 H4
  unfold ptr at *
  go_enter Try.func23, Try.ntmps23
  go_wp2_with fail
  refine (H1.out _ (Below.refl _ _)).mono ?_
  rintro e w3 ⟨rfl, hb3⟩
  have T3 := Aside0.mk hb3
  clear hb3
  go_wp2_with fail
  refine (H2.out _ T3.out).mono ?_
  rintro e w4 ⟨rfl, hb4⟩
  have T4 := Aside0.mk (T3.out.trans (hb4.mono T3.out.size))
  clear hb4
  go_wp2_with fail
  refine (H3.out _ T4.out).mono ?_
  rintro e w5 ⟨rfl, hb5⟩
  have T5 := Aside0.mk (T4.out.trans (hb5.mono T4.out.size))
  clear hb5
  go_wp2_with fail
  refine (H4.out _ T5.out).mono ?_
  rintro e w6 ⟨rfl, hb6⟩
  have T6 := Aside0.mk (T5.out.trans (hb6.mono T5.out.size))
  clear hb6
  go_wp2_with fail
  go_ret
  exact ⟨by simp, T6.out⟩
end
end Go.Proofs.Ytobhnababkpcbaa.Dev
