/- The table's contracts, third part: Done and Last. -/
import Derived.Test.YtjjbikpjkbdabaaTabW
set_option linter.unusedVariables false
set_option linter.unusedSimpArgs false
namespace Go.Proofs.Ytjjbikpjkbdabaa.Tab
open Go.RowKit Go.Proofs.YtjjbikpjkbdabaaW.PrintWords Go.Proofs.YtjjbikpjkbdabaaW.PrintLast Go.Proofs.YtjjbikpjkbdabaaW.PrintMore Go.Proofs.Ytjjbikpjkbdabaa.Maps Go.Proofs.Ytjjbikpjkbdabaa.TabS

section
variable {B tb mb : Nat} {bs : List (Int × Nat)} {m : T} {c r : Int} {w : World} {x : Res} {A : Option Addr} {cx : Nat}
theorem keys_same {γ : Type} (c : Int) (u : γ) : ∀ (m : List (Int × γ)) (v : γ), mget m c = some v → (mput m c u).map (·.1) = m.map (·.1)
  | [], _, h => by simp [mget] at h
  | q :: m, v, h => by
    simp only [mget] at h
    simp only [mput]
    by_cases e : q.1 = c
    · rw [if_pos e]; simp [e]
    · rw [if_neg e] at h ⊢
      simp [keys_same c u m v h]
theorem TabIs.set (h : TabIs B w tb mb bs m) {kb : Nat} {k u : K} (hb : mget bs c = some kb) (hk : mget m c = some k) {w' : World} (hK : KnownIs B w' kb u) (hm : ∀ i, i < w.heap.size → i ≠ kb → w'.heap[i]? = w.heap[i]?) : TabIs B w' tb mb bs (mput m c u) := by
  obtain ⟨k0, h0, A0, c0, h1, _⟩ := h.read c kb hb
  have hokk : ∀ k, ok B w k → k < w.heap.size → w'.heap[k]? = w.heap[k]? := fun k hk hlt => hm k hlt (fun e => h.not_ok (.inr (.inr ⟨c, e ▸ hb⟩)) hk)
  refine ⟨?_, ?_, h.keys.trans (keys_same c u m k hk).symm, ?_, h.inj, h.baseT, h.baseM, h.baseK⟩
  · refine (hm tb (blk_lt h.tab) (fun e => ?_)).trans h.tab
    have := h.tab
    rw [e, h1] at this
    simp at this
  · refine h.map.of_block (hm mb h.map.lt (fun e => ?_))
    obtain ⟨es, clock, h5, _⟩ := h.map
    rw [e, h1] at h5
    simp at h5
  · intro c' kb' hc
    rw [mget_mput]
    by_cases e : c = c'
    · rw [if_pos e]
      subst e
      rw [hb] at hc
      obtain rfl := Option.some.inj hc
      exact ⟨u, rfl, hK⟩
    · rw [if_neg e]
      obtain ⟨k', h2, h3⟩ := h.read c' kb' hc
      refine ⟨k', h2, ?_⟩
      have h4 := h3
      obtain ⟨A1, c1, h5, _⟩ := h4
      exact h3.step (hm kb' (blk_lt h5) (fun q => e (h.inj c c' kb hb (q ▸ hc)))) hokk
theorem setc_heap (w : World) (b j : Nat) (u : Value) (i : Nat) (hi : i ≠ b) : (w.setCell ⟨b, j, none⟩ u).heap[i]? = w.heap[i]? := Below.heap_setCell w ⟨b, j, none⟩ u i hi
theorem setc_os (w : World) (p : Addr) (u : Value) : (w.setCell p u).os = w.os := rfl
theorem setc_tape (w : World) (p : Addr) (u : Value) : (w.setCell p u).tape = w.tape := rfl
theorem setc_output (w : World) (p : Addr) (u : Value) : (w.setCell p u).output = w.output := rfl
theorem setc_size (w : World) (b j : Nat) (u : Value) : (w.setCell ⟨b, j, none⟩ u).heap.size = w.heap.size := by simp [World.setCell]
theorem known_set {w1 : World} {kb c2 : Nat} {b : Bool} {e1 k1 l1 s1 : Int} {d1 : ByteArray} {v1 : Value} {A' : Option Addr} (hBk : B ≤ kb) (h : w1.heap[kb]? = some (.cells #[.int .i64 r, .bool b, .int .i64 e1, .string d1, .int .i64 k1, .int .i64 l1, .int .i64 s1, v1] 64 (0, 0))) (hn : Names B w1 A' x.n c2) :
    KnownIs B (((((((w1.setCell ⟨kb, 1, none⟩ (.bool true)).setCell ⟨kb, 2, none⟩ (.int .i64 x.e)).setCell ⟨kb, 3, none⟩ (.string x.d)).setCell ⟨kb, 4, none⟩ (.int .i64 x.k)).setCell ⟨kb, 5, none⟩ (.int .i64 x.l)).setCell ⟨kb, 6, none⟩ (.int .i64 x.s)).setCell ⟨kb, 7, none⟩ (.slice A' x.n.length c2)) kb ⟨r, true, x⟩ := by
  have q0 := blk_put h 1 (.bool true) (by rfl)
  have n0 := hn.far h (by decide) hBk 1 (.bool true)
  have q1 := blk_put q0 2 (.int .i64 x.e) (by rfl)
  have n1 := n0.far q0 (by decide) hBk 2 (.int .i64 x.e)
  have q2 := blk_put q1 3 (.string x.d) (by rfl)
  have n2 := n1.far q1 (by decide) hBk 3 (.string x.d)
  have q3 := blk_put q2 4 (.int .i64 x.k) (by rfl)
  have n3 := n2.far q2 (by decide) hBk 4 (.int .i64 x.k)
  have q4 := blk_put q3 5 (.int .i64 x.l) (by rfl)
  have n4 := n3.far q3 (by decide) hBk 5 (.int .i64 x.l)
  have q5 := blk_put q4 6 (.int .i64 x.s) (by rfl)
  have n5 := n4.far q4 (by decide) hBk 6 (.int .i64 x.s)
  have q6 := blk_put q5 7 (.slice A' x.n.length c2) (by rfl)
  have n6 := n5.far q5 (by decide) hBk 7 (.slice A' x.n.length c2)
  exact ⟨A', c2, by simpa using q6, n6⟩
theorem others {w1 : World} {kb : Nat} {v2 v3 v4 v5 v6 v7 v8 : Value} (i : Nat) (hi : i ≠ kb) : (((((((w1.setCell ⟨kb, 1, none⟩ v2).setCell ⟨kb, 2, none⟩ v3).setCell ⟨kb, 3, none⟩ v4).setCell ⟨kb, 4, none⟩ v5).setCell ⟨kb, 5, none⟩ v6).setCell ⟨kb, 6, none⟩ v7).setCell ⟨kb, 7, none⟩ v8).heap[i]? = w1.heap[i]? := by
  rw [setc_heap _ kb _ _ i hi, setc_heap _ kb _ _ i hi, setc_heap _ kb _ _ i hi, setc_heap _ kb _ _ i hi, setc_heap _ kb _ _ i hi, setc_heap _ kb _ _ i hi, setc_heap _ kb _ _ i hi]
theorem fr_set {w1 : World} {kb : Nat} {f : Nat → Prop} (hf : f kb) {v2 v3 v4 v5 v6 v7 v8 : Value} : Fr w1 (((((((w1.setCell ⟨kb, 1, none⟩ v2).setCell ⟨kb, 2, none⟩ v3).setCell ⟨kb, 3, none⟩ v4).setCell ⟨kb, 4, none⟩ v5).setCell ⟨kb, 5, none⟩ v6).setCell ⟨kb, 6, none⟩ v7).setCell ⟨kb, 7, none⟩ v8) f :=
  ⟨by rw [setc_os, setc_os, setc_os, setc_os, setc_os, setc_os, setc_os], by rw [setc_tape, setc_tape, setc_tape, setc_tape, setc_tape, setc_tape, setc_tape], by rw [setc_output, setc_output, setc_output, setc_output, setc_output, setc_output, setc_output], by rw [setc_size, setc_size, setc_size, setc_size, setc_size, setc_size, setc_size]; exact Nat.le_refl _, fun i _ hi => others i (fun e => hi (e ▸ hf))⟩
def DonePost (B tb mb : Nat) (bs : List (Int × Nat)) (w : World) (a : T × Int) (e : Ending) (w' : World) : Prop :=
  e = .returned (.int .i64 a.2) ∧ TabIs B w' tb mb bs a.1 ∧ Fr w w' (fp tb mb bs)
theorem DonePost.same {y : Int} {w' : World} (h : TabIs B w tb mb bs m) (hb : Below w.heap.size w w') : DonePost B tb mb bs w (m, y) (.returned (.int .i64 y)) w' :=
  ⟨rfl, h.below hb, Fr.of_below hb _⟩
set_option maxHeartbeats 2000000 in
set_option maxRecDepth 100000 in
theorem done_wrong (h : TabIs B w tb mb bs m) (hw : wrong c r = true) : Calls Try.prog 10 #[ptr tb, .int .i64 c, .int .i64 r, vres x A cx] w (DonePost B tb mb bs w (m, 1)) := by
  have hu := Try.underlying29
  have hup := Try.underlying61
  have hus := Try.underlying64
  have H : Aside0 (TabIs B w tb mb bs m) := .mk h
  clear h
  unfold vres
  go_enter Try.func10, Try.ntmps10
  go_wp2_with fail
  refine (at_calls B tb mb bs m c _ (H.out.below (below_alloc (Below.refl _ _) _))).mono ?_
  rintro e w1 ⟨rfl, rfl⟩
  go_wp2_with fail
  refine (wrong_calls c r _).mono ?_
  rintro e w1 ⟨rfl, rfl⟩
  rw [hw]
  go_wp2_with fail
  go_ret
  exact DonePost.same H.out (below_alloc (Below.refl _ _) _)
set_option maxHeartbeats 2000000 in
set_option maxRecDepth 100000 in
theorem done_none (h : TabIs B w tb mb bs m) (hw : wrong c r = false) (hk : mget bs c = none) : Calls Try.prog 10 #[ptr tb, .int .i64 c, .int .i64 r, vres x A cx] w (DonePost B tb mb bs w (m, 6)) := by
  have hu := Try.underlying29
  have hup := Try.underlying61
  have hus := Try.underlying64
  have H : Aside0 (TabIs B w tb mb bs m) := .mk h
  clear h
  unfold vres
  go_enter Try.func10, Try.ntmps10
  go_wp2_with fail
  refine (at_calls B tb mb bs m c _ (H.out.below (below_alloc (Below.refl _ _) _))).mono ?_
  rintro e w1 ⟨rfl, rfl⟩
  rw [hk]
  go_wp2_with fail
  refine (wrong_calls c r _).mono ?_
  rintro e w1 ⟨rfl, rfl⟩
  rw [hw]
  go_wp2_with fail
  go_ret
  exact DonePost.same H.out (below_alloc (Below.refl _ _) _)
set_option maxHeartbeats 2000000 in
set_option maxRecDepth 100000 in
theorem done_other (h : TabIs B w tb mb bs m) (hw : wrong c r = false) {kb : Nat} {k : K} (hk : mget bs c = some kb) (hK : KnownIs B w kb k) (hr : k.req ≠ r) : Calls Try.prog 10 #[ptr tb, .int .i64 c, .int .i64 r, vres x A cx] w (DonePost B tb mb bs w (m, 6)) := by
  have hu := Try.underlying29
  have hup := Try.underlying61
  have hus := Try.underlying64
  have H : Aside0 (TabIs B w tb mb bs m) := .mk h
  obtain ⟨Ak, ck, hb, hn⟩ := hK
  have hb2 := blk_alloc hb (.cells #[.int .i64 x.e, .string x.d, .int .i64 x.k, .int .i64 x.l, .int .i64 x.s, .slice A x.n.length cx] 29)
  have c0 := (blk_cell hb2 0).trans rfl
  have c1 := (blk_cell hb2 1).trans rfl
  have b1 : (k.req != r) = true := by simpa using hr
  clear hr hb hb2
  clear h
  unfold vres
  go_enter Try.func10, Try.ntmps10
  go_wp2_with fail
  refine (at_calls B tb mb bs m c _ (H.out.below (below_alloc (Below.refl _ _) _))).mono ?_
  rintro e w1 ⟨rfl, rfl⟩
  rw [hk]
  go_wp2_with fail
  refine (wrong_calls c r _).mono ?_
  rintro e w1 ⟨rfl, rfl⟩
  rw [hw]
  go_wp2_with fail
  go_ret
  exact DonePost.same H.out (below_alloc (Below.refl _ _) _)
set_option maxHeartbeats 2000000 in
set_option maxRecDepth 100000 in
theorem done_again (h : TabIs B w tb mb bs m) (hw : wrong c r = false) {kb : Nat} {k : K} (hk : mget bs c = some kb) (hK : KnownIs B w kb k) (hr : k.req = r) (hd : k.done = true) : Calls Try.prog 10 #[ptr tb, .int .i64 c, .int .i64 r, vres x A cx] w (DonePost B tb mb bs w (m, 7)) := by
  have hu := Try.underlying29
  have hup := Try.underlying61
  have hus := Try.underlying64
  have H : Aside0 (TabIs B w tb mb bs m) := .mk h
  obtain ⟨Ak, ck, hb, hn⟩ := hK
  rw [hd] at hb
  have hb2 := blk_alloc hb (.cells #[.int .i64 x.e, .string x.d, .int .i64 x.k, .int .i64 x.l, .int .i64 x.s, .slice A x.n.length cx] 29)
  have c0 := (blk_cell hb2 0).trans rfl
  have c1 := (blk_cell hb2 1).trans rfl
  have b1 : (k.req != r) = false := by simpa using hr
  clear hr hb hb2
  clear h
  unfold vres
  go_enter Try.func10, Try.ntmps10
  go_wp2_with fail
  refine (at_calls B tb mb bs m c _ (H.out.below (below_alloc (Below.refl _ _) _))).mono ?_
  rintro e w1 ⟨rfl, rfl⟩
  rw [hk]
  go_wp2_with fail
  refine (wrong_calls c r _).mono ?_
  rintro e w1 ⟨rfl, rfl⟩
  rw [hw]
  go_wp2_with fail
  go_ret
  exact DonePost.same H.out (below_alloc (Below.refl _ _) _)
set_option maxHeartbeats 2000000 in
set_option maxRecDepth 100000 in
theorem done_now (h : TabIs B w tb mb bs m) (hw : wrong c r = false) (hBw : B ≤ w.heap.size) (hx : Names B w A x.n cx) {kb : Nat} {k : K} (hk : mget bs c = some kb) (hK : KnownIs B w kb k) (hkm : mget m c = some k) (hr : k.req = r) (hd : k.done = false) : Calls Try.prog 10 #[ptr tb, .int .i64 c, .int .i64 r, vres x A cx] w (DonePost B tb mb bs w (mput m c ⟨r, true, x⟩, 0)) := by
  have hu := Try.underlying29
  have hup := Try.underlying61
  have hus := Try.underlying64
  have H : Aside0 (TabIs B w tb mb bs m) := .mk h
  obtain ⟨Ak, ck, hb, hn⟩ := hK
  rw [hd, hr] at hb
  have hb2 := blk_alloc hb (.cells #[.int .i64 x.e, .string x.d, .int .i64 x.k, .int .i64 x.l, .int .i64 x.s, .slice A x.n.length cx] 29)
  have c0 := (blk_cell hb2 0).trans rfl
  have c1 := (blk_cell hb2 1).trans rfl
  have N : Aside0 (Names B w A x.n cx) := .mk hx
  have HB : Aside0 (w.heap[kb]? = some (.cells #[.int .i64 r, .bool false, .int .i64 k.res.e, .string k.res.d, .int .i64 k.res.k, .int .i64 k.res.l, .int .i64 k.res.s, .slice Ak k.res.n.length ck] 64 (0, 0))) := .mk hb
  have b1 : (r != r) = false := by simp
  clear hb hb2 hx hn
  clear h
  unfold vres
  go_enter Try.func10, Try.ntmps10
  go_wp2_with fail
  refine (at_calls B tb mb bs m c _ (H.out.below (below_alloc (Below.refl _ _) _))).mono ?_
  rintro e w1 ⟨rfl, rfl⟩
  rw [hk]
  go_wp2_with fail
  refine (wrong_calls c r _).mono ?_
  rintro e w1 ⟨rfl, rfl⟩
  rw [hw]
  go_wp2_with fail
  refine (own_calls B A x cx _ (N.out.below (below_alloc (Below.refl _ _) _)) (by simp; omega)).mono ?_
  rintro e w1 ⟨A', c2', rfl, hn', hb'⟩
  have hB : Below w.heap.size w w1 := (below_alloc (Below.refl _ _) _).trans (hb'.mono (by simp))
  have h1 := blk_below HB.out hB
  have f1 := blk_frozen h1
  have d0 := (blk_cell h1 0).trans rfl
  have d1 := (blk_cell h1 1).trans rfl
  have d2 := (blk_cell h1 2).trans rfl
  have d3 := (blk_cell h1 3).trans rfl
  have d4 := (blk_cell h1 4).trans rfl
  have d5 := (blk_cell h1 5).trans rfl
  have d6 := (blk_cell h1 6).trans rfl
  have d7 := (blk_cell h1 7).trans rfl
  have P := Aside0.mk h1
  have P3 := Aside0.mk hB
  have P4 := Aside0.mk hn'
  clear h1 hB hn' hb'
  unfold vres
  go_wp2_with fail
  go_ret
  have hBk : B ≤ kb := H.out.baseK c kb hk
  have hK' := known_set hBk P.out P4.out
  refine ⟨rfl, (H.out.below P3.out).set hk hkm hK' (fun i _ hi => others i hi), (Fr.of_below P3.out _).trans (fr_set (f := fp tb mb bs) (.inr (.inr ⟨c, hk⟩))) (fun i hi => .inl hi)⟩
theorem done_calls (h : TabIs B w tb mb bs m) (hBw : B ≤ w.heap.size) (hx : Names B w A x.n cx) : Calls Try.prog 10 #[ptr tb, .int .i64 c, .int .i64 r, vres x A cx] w (DonePost B tb mb bs w (tDone m c r x)) := by
  unfold tDone
  by_cases hw : wrong c r = true
  · rw [if_pos hw]; exact done_wrong h hw
  rw [if_neg hw]
  replace hw : wrong c r = false := by simpa using hw
  cases hb : mget bs c with
  | none => rw [(h.look_none c).1 hb]; exact done_none h hw hb
  | some kb =>
    obtain ⟨k, hk, hK⟩ := h.read c kb hb
    rw [hk]
    dsimp only
    by_cases h1 : k.req = r
    · rw [if_pos h1]
      by_cases h3 : k.done = true
      · rw [if_pos h3]; exact done_again h hw hb hK h1 h3
      · rw [if_neg h3]; exact done_now h hw hBw hx hb hK hk h1 (by simpa using h3)
    · rw [if_neg h1]; exact done_other h hw hb hK h1
def last (t : T) (c : Int) : Int × Bool := match mget t c with | none => (0, false) | some k => (k.req, true)
set_option maxHeartbeats 800000 in
set_option maxRecDepth 100000 in
theorem last_calls (h : TabIs B w tb mb bs m) : Calls Try.prog 13 #[ptr tb, .int .i64 c] w fun e w' => e = .returned (.tuple #[.int .i64 (last m c).1, .bool (last m c).2]) ∧ w' = w := by
  have hup := Try.underlying61
  have hus := Try.underlying64
  have H : Aside0 (TabIs B w tb mb bs m) := .mk h
  unfold last
  cases hb : mget bs c with
  | none =>
    rw [(h.look_none c).1 hb]
    clear h
    go_enter Try.func13, Try.ntmps13
    go_wp2_with fail
    refine (at_calls B tb mb bs m c _ H.out).mono ?_
    rintro e w1 ⟨rfl, rfl⟩
    rw [hb]
    go_wp2_with fail
    go_ret2
    exact ⟨rfl, rfl⟩
  | some kb =>
    obtain ⟨k, hk, A, c', h1, _⟩ := h.read c kb hb
    rw [hk]
    have c0 := (blk_cell h1 0).trans rfl
    clear h h1
    go_enter Try.func13, Try.ntmps13
    go_wp2_with fail
    refine (at_calls B tb mb bs m c _ H.out).mono ?_
    rintro e w1 ⟨rfl, rfl⟩
    rw [hb]
    go_wp2_with fail
    go_ret2
    exact ⟨rfl, rfl⟩
end
end Go.Proofs.Ytjjbikpjkbdabaa.Tab
