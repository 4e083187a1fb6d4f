/- The table's contracts: how it lies in memory, and what its functions do. -/
import Derived.Test.YtjjbikpjkbdabaaTabSpec
import Derived.Lib.Walk
import Derived.Lib.SliceRun
import Derived.Test.YtjjbikpjkbdabaaPtx3
import Derived.Outline
set_option linter.unusedVariables false
set_option linter.unusedSimpArgs false
namespace Go.Proofs.Ytjjbikpjkbdabaa.Tab
open Go.RowKit Go.Proofs.YtjjbikpjkbdabaaW.PrintWords Go.Proofs.YtjjbikpjkbdabaaW.PrintLast Go.Proofs.YtjjbikpjkbdabaaW.PrintMore Go.Proofs.Ytjjbikpjkbdabaa.Maps Go.Proofs.Ytjjbikpjkbdabaa.TabS

/-- A block that no table turns: elder than B, or a row of texts. -/
def ok (B : Nat) (w : World) (k : Nat) : Prop := k < B ∨ ∃ cells, w.heap[k]? = some (.cells cells 9 (0, 0))
/-- A row of names. -/
structure Names (B : Nat) (w : World) (A : Option Addr) (n : List ByteArray) (c : Nat) : Prop where
  cap : n.length ≤ c
  sized : n.length * 16 ≤ 140737488351232
  row : Kd.F Kd.string w (ok B w) A n.length n
def vres (r : Res) (A : Option Addr) (c : Nat) : Value := .agg #[.int .i64 r.e, .string r.d, .int .i64 r.k, .int .i64 r.l, .int .i64 r.s, .slice A r.n.length c]
def KnownIs (B : Nat) (w : World) (kb : Nat) (k : K) : Prop :=
  ∃ A c, w.heap[kb]? = some (.cells #[.int .i64 k.req, .bool k.done, .int .i64 k.res.e, .string k.res.d, .int .i64 k.res.k, .int .i64 k.res.l, .int .i64 k.res.s, .slice A k.res.n.length c] 64 (0, 0)) ∧ Names B w A k.res.n c
def ptr (b : Nat) : Value := .pointer (some ⟨b, 0, none⟩)
structure TabIs (B : Nat) (w : World) (tb mb : Nat) (bs : List (Int × Nat)) (m : T) : Prop where
  tab : w.heap[tb]? = some (.cells #[.map (some mb)] 60 (0, 0))
  map : MapIs w (Value.int .i64) mb (bs.map fun p => (p.1, ptr p.2))
  keys : bs.map (·.1) = m.map (·.1)
  read : ∀ c kb, mget bs c = some kb → ∃ k, mget m c = some k ∧ KnownIs B w kb k
  inj : ∀ c c' kb, mget bs c = some kb → mget bs c' = some kb → c = c'
  baseT : B ≤ tb
  baseM : B ≤ mb
  baseK : ∀ c kb, mget bs c = some kb → B ≤ kb
def fp (tb mb : Nat) (bs : List (Int × Nat)) (k : Nat) : Prop := k = tb ∨ k = mb ∨ ∃ c, mget bs c = some k
structure Fr (w w' : World) (f : Nat → Prop) : Prop where
  os : w'.os = w.os
  tape : w'.tape = w.tape
  output : w'.output = w.output
  size : w.heap.size ≤ w'.heap.size
  block : ∀ k, k < w.heap.size → ¬ f k → w'.heap[k]? = w.heap[k]?

section
variable {B : Nat} {w w' w1 : World} {A : Option Addr} {n : List ByteArray} {c tb mb kb : Nat} {bs : List (Int × Nat)} {m : T} {k : K} {f : Nat → Prop}
theorem ok_step (hm : ∀ k, ok B w k → k < w.heap.size → w'.heap[k]? = w.heap[k]?) {k : Nat} (h : ok B w k) (hk : k < w.heap.size) : ok B w' k := by
  rcases h with h | ⟨cells, h⟩
  · exact .inl h
  · exact .inr ⟨cells, (hm k (.inr ⟨cells, h⟩) hk).trans h⟩
theorem Names.step (h : Names B w A n c) (hm : ∀ k, ok B w k → k < w.heap.size → w'.heap[k]? = w.heap[k]?) : Names B w' A n c :=
  ⟨h.cap, h.sized, Kd.F_mono (Kd.F_step (Kd.F_bound h.row) (fun k hk hlt => hm k hk.1 hlt)) (fun k hk => ok_step hm hk.1 hk.2)⟩
theorem Names.below (h : Names B w A n c) (hb : Below w.heap.size w w') : Names B w' A n c := h.step (fun k _ hlt => hb.block k hlt)
theorem Names.far (h : Names B w A n c) {g t : Nat} {cs : Array Value} (hb : w.heap[g]? = some (.cells cs t (0, 0))) (ht : t ≠ 9) (hg : B ≤ g) (i : Nat) (u : Value) : Names B (w.setCell ⟨g, i, none⟩ u) A n c :=
  h.step (fun k hk _ => Below.heap_setCell w ⟨g, i, none⟩ u k (by
    rintro rfl
    rcases hk with hk | ⟨cells, hk⟩
    · exact absurd hg (by simpa using hk)
    · have e : some (Obj.cells cs t (0, 0)) = some (.cells cells 9 (0, 0)) := hb.symm.trans hk
      simp at e
      exact ht e.2))
theorem Names.reads (h : Names B w A n c) : Kd.C Kd.string w A n.length n := Kd.F_now h.row
theorem Names.nil (B : Nat) (w : World) : Names B w none [] 0 := ⟨Nat.le_refl _, by simp, Kd.F_nil _ _ _⟩
theorem KnownIs.step (h : KnownIs B w kb k) (hb : w'.heap[kb]? = w.heap[kb]?) (hm : ∀ k, ok B w k → k < w.heap.size → w'.heap[k]? = w.heap[k]?) : KnownIs B w' kb k := by
  obtain ⟨A, c, h1, h2⟩ := h
  exact ⟨A, c, hb.trans h1, h2.step hm⟩
theorem TabIs.not_ok (h : TabIs B w tb mb bs m) {k : Nat} (hf : fp tb mb bs k) : ¬ ok B w k := by
  rintro (hlt | ⟨cells, hc⟩)
  · rcases hf with rfl | rfl | ⟨c, hc⟩
    · exact absurd h.baseT (by omega)
    · exact absurd h.baseM (by omega)
    · exact absurd (h.baseK c k hc) (by omega)
  · rcases hf with rfl | rfl | ⟨c, hk⟩
    · have := h.tab; rw [hc] at this; simp at this
    · obtain ⟨es, clock, h1, _⟩ := h.map; rw [hc] at h1; simp at h1
    · obtain ⟨k', _, A, c', h1, _⟩ := h.read c k hk; rw [hc] at h1; simp at h1
theorem TabIs.step (h : TabIs B w tb mb bs m) (hf : ∀ k, fp tb mb bs k → k < w.heap.size → w'.heap[k]? = w.heap[k]?) (hm : ∀ k, ok B w k → k < w.heap.size → w'.heap[k]? = w.heap[k]?) : TabIs B w' tb mb bs m where
  tab := (hf tb (.inl rfl) (Array.getElem?_eq_some_iff.1 h.tab).1).trans h.tab
  map := h.map.of_block (hf mb (.inr (.inl rfl)) h.map.lt)
  keys := h.keys
  read := fun c kb hc => by
    obtain ⟨k, h1, h2⟩ := h.read c kb hc
    have h3 := h2
    obtain ⟨A, c', h4, _⟩ := h3
    exact ⟨k, h1, h2.step (hf kb (.inr (.inr ⟨c, hc⟩)) (Array.getElem?_eq_some_iff.1 h4).1) hm⟩
  inj := h.inj
  baseT := h.baseT
  baseM := h.baseM
  baseK := h.baseK
theorem TabIs.below (h : TabIs B w tb mb bs m) (hb : Below w.heap.size w w') : TabIs B w' tb mb bs m := h.step (fun k _ hlt => hb.block k hlt) (fun k _ hlt => hb.block k hlt)
theorem TabIs.fr (h : TabIs B w tb mb bs m) (hf : Fr w w' f) (hd : ∀ k, fp tb mb bs k → ¬ f k) (hn : ∀ k, f k → ¬ ok B w k) : TabIs B w' tb mb bs m := h.step (fun k hk hlt => hf.block k hlt (hd k hk)) (fun k hk hlt => hf.block k hlt (fun h => hn k h hk))
theorem TabIs.look_none (h : TabIs B w tb mb bs m) (c : Int) : mget bs c = none ↔ mget m c = none := by
  have g : ∀ (bs : List (Int × Nat)) (m : T), bs.map (·.1) = m.map (·.1) → (mget bs c = none ↔ mget m c = none) := by
    intro bs
    induction bs with
    | nil => intro m hm; have : m = [] := by simpa using hm.symm
             subst this; simp [mget]
    | cons p bs ih =>
      intro m hm
      cases m with
      | nil => simp at hm
      | cons q m =>
        simp only [List.map_cons, List.cons.injEq] at hm
        simp only [mget, hm.1]
        by_cases e : q.1 = c
        · simp [e]
        · rw [if_neg e, if_neg e]
          exact ih m hm.2
  exact g bs m h.keys
theorem TabIs.len (h : TabIs B w tb mb bs m) : bs.length = m.length := by simpa using congrArg List.length h.keys
theorem Fr.refl (w : World) (f : Nat → Prop) : Fr w w f := ⟨rfl, rfl, rfl, Nat.le_refl _, fun _ _ _ => rfl⟩
theorem Fr.of_below (h : Below w.heap.size w w') (f : Nat → Prop) : Fr w w' f := ⟨h.os, h.tape, h.output, h.size, fun k hk _ => h.block k hk⟩
theorem Fr.trans (h : Fr w w1 f) {g : Nat → Prop} (k : Fr w1 w' g) (hg : ∀ i, g i → f i ∨ w.heap.size ≤ i) : Fr w w' f :=
  ⟨k.os.trans h.os, k.tape.trans h.tape, k.output.trans h.output, Nat.le_trans h.size k.size, fun i hi hn => (k.block i (Nat.lt_of_lt_of_le hi h.size) (fun hgi => by
    rcases hg i hgi with h2 | h2
    · exact hn h2
    · omega)).trans (h.block i hi hn)⟩
theorem Fr.below {B : Nat} {W : World} (hW : Below B W w) (h : Fr w w' f) (hf : ∀ k, f k → B ≤ k) (hB : B ≤ w.heap.size) : Below B W w' :=
  ⟨h.os.trans hW.os, h.tape.trans hW.tape, h.output.trans hW.output, Nat.le_trans hW.size h.size, fun i hi => (h.block i (by omega) (fun hk => by have := hf i hk; omega)).trans (hW.block i hi)⟩
end
theorem zero61 (w : World) : (zeroValue 61).run Try.prog w = .ok (.pointer none) w := by simp [Try.zeroValue61, go_sem]

set_option maxRecDepth 100000 in
theorem at_calls (B tb mb : Nat) (bs : List (Int × Nat)) (m : T) (c : Int) (w : World) (h : TabIs B w tb mb bs m) :
    Calls Try.prog 20 #[ptr tb, .int .i64 c] w fun e w' => e = .returned (.pointer ((mget bs c).map fun kb => ⟨kb, 0, none⟩)) ∧ w' = w := by
  have hc : w.cell? ⟨tb, 0, none⟩ = some (.map (some mb)) := (blk_cell h.tab 0).trans rfl
  have hl := h.map.lookup (KeyLaw.int Try.underlying3) Try.underlying58 (zero61 w) c
  have hz : (mget (bs.map fun p => (p.1, ptr p.2)) c).getD (.pointer none) = .pointer ((mget bs c).map fun kb => ⟨kb, 0, none⟩) := by
    rw [mget_map]
    cases mget bs c <;> rfl
  rw [hz] at hl
  clear hz h
  unfold ptr
  have hu := Try.underlying23
  go_enter Try.func20, Try.ntmps20
  go_wp2_with fail
  go_ret
  exact ⟨rfl, rfl⟩

theorem info9 : ∃ i0, Try.prog.info? 9 = some i0 ∧ i0.zero = some (.string ByteArray.empty) ∧ i0.size = 1 ∧ i0.bytes = 16 := by
  have h : (Try.prog.info? 9).map (fun i => (i.zero, i.size, i.bytes)) = some (some (.string ByteArray.empty), 1, 16) := by kernel_rfl
  obtain ⟨i0, hi, h2⟩ := Option.map_eq_some_iff.1 h
  simp only [Prod.mk.injEq] at h2
  exact ⟨i0, hi, h2.1, h2.2.1, h2.2.2⟩
theorem names_of_own {B : Nat} {w1 : World} {base : Nat} {v : Value} {n : List ByteArray} (h : w1.ownsRow base 9 1 v n.length (n.map Value.string)) (hs : n.length * 16 ≤ 140737488351232) : ∃ A c, v = .slice A n.length c ∧ Names B w1 A n c := by
  have hty : ∀ k, v.ownBlock = some k → ok B w1 k := fun k hk => .inr (own_typed h k hk)
  have hR : Kd.string.R 9 w1 base (ok B w1) v n := Kd.R_of_own h hty
  rcases h.2 with ⟨rfl, h0⟩ | ⟨g, cap, cur, rfl, _, _, hcap, _⟩
  · have : n = [] := List.eq_nil_of_length_eq_zero h0
    subst this
    exact ⟨none, 0, rfl, Names.nil _ _⟩
  · exact ⟨_, cap, rfl, hcap, hs, Kd.R_F hR⟩
set_option maxHeartbeats 2000000 in
set_option maxRecDepth 100000 in
theorem clone_calls (B : Nat) (A : Option Addr) (n : List ByteArray) (c : Nat) (w : World) (h : Names B w A n c) :
    Calls Try.prog 27 #[.slice A n.length c] w fun e w' => ∃ A' c', e = .returned (.slice A' n.length c') ∧ Names B w' A' n c' ∧ Below w.heap.size w w' := by
  have q24 : ∀ (w : World) (a : Option Addr) (n c n' c' : Nat), (binOp .eql 27 (.slice a n c) (.slice none n' c')).run Try.prog w = .ok (.bool a.isNone) w := fun w a n c n' c' => Lib.run_eql_slice_nil w _ _ a n c n' c' Try.underlying27
  have u24 : ∀ w, Sem.run Try.prog (underlying 27) w = .ok (TypeDesc.slice 9) w := run_underlying Try.underlying27
  cases A with
  | none =>
    have h0 : n = [] := by
      by_cases hp : 0 < n.length
      · obtain ⟨ad, e, _⟩ := h.reads.2.2 hp; simp at e
      · exact List.eq_nil_of_length_eq_zero (by omega)
    subst h0
    clear h
    go_enter Try.func27, Try.ntmps27
    go_wp2
    go_ret
    exact ⟨none, 0, rfl, Names.nil _ _, Below.refl _ _⟩
  | some ad =>
    obtain ⟨i0, hi, hz0, hz1, hz2⟩ := info9
    have hs := h.sized
    have hc : ∀ j u, (n.map Value.string)[j]? = some u → w.cell? (ad.add j) = some u := by
      intro j u hj
      have hlt : 0 < n.length := by have := (List.getElem?_eq_some_iff.1 hj).1; simp at this; omega
      obtain ⟨ad', he, hcell⟩ := h.reads.2.2 hlt
      obtain rfl := Option.some.inj he
      rw [List.getElem?_map] at hj
      obtain ⟨s, h1, rfl⟩ := Option.map_eq_some_iff.1 hj
      obtain ⟨c', h2, h3, h4⟩ := hcell j s h1
      obtain rfl : c' = [.string s] := h3
      have := h4 0 (.string s) rfl
      simpa [Kd.string, Kd.scalar] using this
    have H : Aside0 (∀ j u, (n.map Value.string)[j]? = some u → w.cell? (ad.add j) = some u) := .mk hc
    clear hc h
    go_enter Try.func27, Try.ntmps27
    go_wp2_with (at_builtin; refine wpList_append_own _ rfl _ _ 27 rfl w.heap.size 9 i0 (.string ByteArray.empty) 1 16 Try.underlying27 hi hz0 hz1 hz2 rfl (by decide) _ _ _ rfl (World.ownsRow_made w #[] 0 (Nat.le_refl _) (Nat.zero_le _) rfl) ad n.length c (n.map Value.string) rfl ?qc1 ?qc2 ?qc3 ?qc4 ?qc5 ?qc6 ?_)
    case qc1 => simp
    case qc2 =>
      intro j u hj
      refine Lib.cell?_alloc_some _ ?_
      exact H.out j u hj
    case qc3 => intro u hu; obtain ⟨x, _, rfl⟩ := List.mem_map.1 hu; rfl
    case qc4 => unfold maxLen; omega
    case qc5 => omega
    case qc6 => simp
    intro v' w1 hown hgrow hnil
    go_wp2
    go_ret
    obtain ⟨A', c', rfl, hn⟩ := names_of_own (B := B) (by simpa using hown) hs
    refine ⟨A', c', rfl, hn, ?_⟩
    exact ((Below.refl _ w).alloc (Nat.le_refl _) _).grown hgrow (by simp) (by intro k hk; simp [Value.ownBlock] at hk; omega)

theorem info29 : ∃ i0, Try.prog.info? 29 = some i0 := by
  have h : (Try.prog.info? 29).isSome = true := by kernel_rfl
  exact Option.isSome_iff_exists.1 h
set_option maxHeartbeats 2000000 in
set_option maxRecDepth 100000 in
theorem own_calls (B : Nat) (A : Option Addr) (r : Res) (c : Nat) (w : World) (h : Names B w A r.n c) (hBw : B ≤ w.heap.size) :
    Calls Try.prog 22 #[vres r A c] w fun e w' => ∃ A' c', e = .returned (vres r A' c') ∧ Names B w' A' r.n c' ∧ Below w.heap.size w w' := by
  have hu := Try.underlying29
  have H : Aside0 (Names B w A r.n c) := .mk h
  clear h
  unfold vres
  go_enter Try.func22, Try.ntmps22
  go_wp2_with fail
  have hW : (((w.alloc (.cells #[.int .i64 r.e, .string r.d, .int .i64 r.k, .int .i64 r.l, .int .i64 r.s, .slice A r.n.length c] 29)).alloc (.cells #[.int .i64 0, .string ⟨#[]⟩, .int .i64 0, .int .i64 0, .int .i64 0, .slice none 0 0] 29))).heap[w.heap.size]? = some (.cells #[.int .i64 r.e, .string r.d, .int .i64 r.k, .int .i64 r.l, .int .i64 r.s, .slice A r.n.length c] 29) := blk_alloc (blk_new w _) _
  have hW2 : (((w.alloc (.cells #[.int .i64 r.e, .string r.d, .int .i64 r.k, .int .i64 r.l, .int .i64 r.s, .slice A r.n.length c] 29)).alloc (.cells #[.int .i64 0, .string ⟨#[]⟩, .int .i64 0, .int .i64 0, .int .i64 0, .slice none 0 0] 29))).heap[w.heap.size + 1]? = some (.cells #[.int .i64 0, .string ⟨#[]⟩, .int .i64 0, .int .i64 0, .int .i64 0, .slice none 0 0] 29) := by
    have := blk_new (w.alloc (.cells #[.int .i64 r.e, .string r.d, .int .i64 r.k, .int .i64 r.l, .int .i64 r.s, .slice A r.n.length c] 29)) (.cells #[.int .i64 0, .string ⟨#[]⟩, .int .i64 0, .int .i64 0, .int .i64 0, .slice none 0 0] 29)
    simpa using this
  refine (clone_calls B A r.n c _ ((H.out.below (below_alloc (Below.refl _ _) _)).below (below_alloc (Below.refl _ _) _))).mono ?_
  rintro e w1 ⟨A', c', rfl, hn, hb⟩
  have h1 := blk_below hW hb
  have h2 := blk_below hW2 hb
  have hB : Below w.heap.size w w1 := (below_alloc (below_alloc (Below.refl _ _) _) _).trans (hb.mono (by simp; omega))
  have f1 := blk_frozen h1
  have f2 := blk_frozen h2
  have c0 := (blk_cell h1 0).trans rfl
  have c1 := (blk_cell h1 1).trans rfl
  have c2 := (blk_cell h1 2).trans rfl
  have c3 := (blk_cell h1 3).trans rfl
  have c4 := (blk_cell h1 4).trans rfl
  have c5 := (blk_cell h1 5).trans rfl
  have d0 := (blk_cell h2 0).trans rfl
  have d1 := (blk_cell h2 1).trans rfl
  have d2 := (blk_cell h2 2).trans rfl
  have d3 := (blk_cell h2 3).trans rfl
  have d4 := (blk_cell h2 4).trans rfl
  have d5 := (blk_cell h2 5).trans rfl
  have P := Aside0.mk h1
  have P2 := Aside0.mk h2
  have P3 := Aside0.mk hB
  have P4 := Aside0.mk hn
  clear hW hW2 hb h1 h2 hB hn
  go_wp2_with fail
  have q1 := blk_set P.out 5 (.slice A' r.n.length c')
  have n1 := P4.out.far P.out (by decide) hBw 5 (.slice A' r.n.length c')
  have q2 := blk_far P2.out (p := ⟨w.heap.size, 5, none⟩) (by simp) (.slice A' r.n.length c')
  have n2 := n1.far q2 (by decide) (by omega) 0 (.int .i64 r.e)
  have q3 := blk_set q2 0 (.int .i64 r.e)
  have n3 := n2.far q3 (by decide) (by omega) 1 (.string r.d)
  have q4 := blk_set q3 1 (.string r.d)
  have n4 := n3.far q4 (by decide) (by omega) 2 (.int .i64 r.k)
  have q5 := blk_set q4 2 (.int .i64 r.k)
  have n5 := n4.far q5 (by decide) (by omega) 3 (.int .i64 r.l)
  have q6 := blk_set q5 3 (.int .i64 r.l)
  have n6 := n5.far q6 (by decide) (by omega) 4 (.int .i64 r.s)
  have q7 := blk_set q6 4 (.int .i64 r.s)
  have n7 := n6.far q7 (by decide) (by omega) 5 (.slice A' r.n.length c')
  refine bodyPost_ret (v := .agg #[.int .i64 r.e, .string r.d, .int .i64 r.k, .int .i64 r.l, .int .i64 r.s, .slice A' r.n.length c']) (by simp [results, Try.results22, go_sem, c0, c1, c2, c3, c4, c5, d0, d1, d2, d3, d4, d5]) rfl ⟨A', c', rfl, n7, ?_⟩
  exact ((((((P3.out.setCell (Nat.le_refl _) _).setCell (by simp) _).setCell (by simp) _).setCell (by simp) _).setCell (by simp) _).setCell (by simp) _).setCell (by simp) _

set_option maxRecDepth 100000 in
theorem wrong_calls (c r : Int) (w : World) : Calls Try.prog 21 #[.int .i64 c, .int .i64 r] w fun e w' => e = .returned (.bool (wrong c r)) ∧ w' = w := by
  unfold wrong
  by_cases h1 : c < 0
  · rw [if_pos h1]
    have b1 : decide (c < 0) = true := decide_eq_true h1
    clear h1
    go_enter Try.func21, Try.ntmps21
    go_wp2
    go_ret
    exact ⟨rfl, rfl⟩
  rw [if_neg h1]
  have b1 : decide (c < 0) = false := decide_eq_false h1
  clear h1
  by_cases h2 : c > 1099511627776
  · rw [if_pos h2]
    have b2 : decide (1099511627776 < c) = true := decide_eq_true h2
    clear h2
    go_enter Try.func21, Try.ntmps21
    go_wp2
    go_ret
    exact ⟨rfl, rfl⟩
  rw [if_neg h2]
  have b2 : decide (1099511627776 < c) = false := decide_eq_false h2
  clear h2
  by_cases h3 : r < 1
  · rw [if_pos h3]
    have b3 : decide (r < 1) = true := decide_eq_true h3
    clear h3
    go_enter Try.func21, Try.ntmps21
    go_wp2
    go_ret
    exact ⟨rfl, rfl⟩
  rw [if_neg h3]
  have b3 : decide (r < 1) = false := decide_eq_false h3
  clear h3
  go_enter Try.func21, Try.ntmps21
  go_wp2
  go_ret
  exact ⟨rfl, rfl⟩
set_option maxHeartbeats 800000 in
set_option maxRecDepth 100000 in
theorem new_calls (B : Nat) (w : World) (hB : B ≤ w.heap.size) : Calls Try.prog 7 #[] w fun e w' => ∃ tb mb, e = .returned (ptr tb) ∧ TabIs B w' tb mb [] [] ∧ Below w.heap.size w w' ∧ w.heap.size ≤ tb ∧ w.heap.size ≤ mb := by
  have hmm := @run_makeMap Try.prog
  have hu := Try.underlying60
  go_enter Try.func7, Try.ntmps7
  go_wp2_with fail
  go_ret
  refine ⟨w.heap.size + 1, w.heap.size, rfl, ⟨?_, ?_, rfl, fun c kb h => by simp [mget] at h, fun c c' kb h => by simp [mget] at h, by omega, hB, fun c kb h => by simp [mget] at h⟩, below_alloc (below_alloc (Below.refl _ _) _) _, by omega, Nat.le_refl _⟩
  · simpa using blk_new (w.alloc (.map #[] 0)) (.cells #[.map (some w.heap.size)] 60)
  · exact (MapIs.made w).of_block (Below.heap_alloc (w.alloc (.map #[] 0)) _ w.heap.size (by simp))

def zres : Value := .agg #[.int .i64 0, .string ByteArray.empty, .int .i64 0, .int .i64 0, .int .i64 0, .slice none 0 0]
def AskPost (B : Nat) (w : World) (a : Int × Res × Int) (e : Ending) (w' : World) : Prop := ∃ A c', e = .returned (.tuple #[.int .i64 a.1, vres a.2.1 A c', .int .i64 a.2.2]) ∧ Names B w' A a.2.1.n c' ∧ Below w.heap.size w w'
section
variable {B tb mb : Nat} {bs : List (Int × Nat)} {m : T} {c r : Int} {w : World}
set_option maxHeartbeats 800000 in
set_option maxRecDepth 100000 in
theorem ask_wrong (h : TabIs B w tb mb bs m) (hw : wrong c r = true) : Calls Try.prog 11 #[ptr tb, .int .i64 c, .int .i64 r] w (AskPost B w (0, zero, 1)) := by
  have hu := Try.underlying29
  have H : Aside0 (TabIs B w tb mb bs m) := .mk h
  clear h
  go_enter Try.func11, Try.ntmps11
  go_wp2_with fail
  refine (at_calls B tb mb bs m c _ (H.out.below (below_alloc (Below.refl _ _) _))).mono ?_
  rintro e w1 ⟨rfl, rfl⟩
  go_wp2_with fail
  refine (wrong_calls c r _).mono ?_
  rintro e w1 ⟨rfl, rfl⟩
  rw [hw]
  go_wp2_with fail
  exact bodyPost_ret (v := .tuple #[.int .i64 0, vres zero none 0, .int .i64 1]) (by simp [results, Try.results11, go_sem, vres, zero]; rfl) rfl ⟨none, 0, rfl, Names.nil _ _, below_alloc (Below.refl _ _) _⟩
set_option maxHeartbeats 800000 in
set_option maxRecDepth 100000 in
theorem ask_none (h : TabIs B w tb mb bs m) (hw : wrong c r = false) (hk : mget bs c = none) : Calls Try.prog 11 #[ptr tb, .int .i64 c, .int .i64 r] w (AskPost B w (1, zero, 0)) := by
  have hu := Try.underlying29
  have hup := Try.underlying61
  have hus := Try.underlying64
  have H : Aside0 (TabIs B w tb mb bs m) := .mk h
  clear h
  go_enter Try.func11, Try.ntmps11
  go_wp2_with fail
  refine (at_calls B tb mb bs m c _ (H.out.below (below_alloc (Below.refl _ _) _))).mono ?_
  rintro e w1 ⟨rfl, rfl⟩
  rw [hk]
  go_wp2_with fail
  refine (wrong_calls c r _).mono ?_
  rintro e w1 ⟨rfl, rfl⟩
  rw [hw]
  go_wp2_with fail
  exact bodyPost_ret (v := .tuple #[.int .i64 1, vres zero none 0, .int .i64 0]) (by simp [results, Try.results11, go_sem, vres, zero]; rfl) rfl ⟨none, 0, rfl, Names.nil _ _, below_alloc (Below.refl _ _) _⟩
set_option maxHeartbeats 800000 in
set_option maxRecDepth 100000 in
theorem ask_new (h : TabIs B w tb mb bs m) (hw : wrong c r = false) {kb : Nat} {k : K} (hk : mget bs c = some kb) (hK : KnownIs B w kb k) (hr : k.req < r) : Calls Try.prog 11 #[ptr tb, .int .i64 c, .int .i64 r] w (AskPost B w (1, zero, 0)) := by
  have hu := Try.underlying29
  have hup := Try.underlying61
  have hus := Try.underlying64
  have H : Aside0 (TabIs B w tb mb bs m) := .mk h
  obtain ⟨A, c', hb, hn⟩ := hK
  have c0 := (blk_cell (blk_alloc hb (.cells #[.int .i64 0, .string ⟨#[]⟩, .int .i64 0, .int .i64 0, .int .i64 0, .slice none 0 0] 29)) 0).trans rfl
  have c1 := (blk_cell (blk_alloc hb (.cells #[.int .i64 0, .string ⟨#[]⟩, .int .i64 0, .int .i64 0, .int .i64 0, .slice none 0 0] 29)) 1).trans rfl
  have b1 : decide (k.req < r) = true := decide_eq_true hr
  clear hr hb
  clear h
  go_enter Try.func11, Try.ntmps11
  go_wp2_with fail
  refine (at_calls B tb mb bs m c _ (H.out.below (below_alloc (Below.refl _ _) _))).mono ?_
  rintro e w1 ⟨rfl, rfl⟩
  rw [hk]
  go_wp2_with fail
  refine (wrong_calls c r _).mono ?_
  rintro e w1 ⟨rfl, rfl⟩
  rw [hw]
  go_wp2_with fail
  exact bodyPost_ret (v := .tuple #[.int .i64 1, vres zero none 0, .int .i64 0]) (by simp [results, Try.results11, go_sem, vres, zero]; rfl) rfl ⟨none, 0, rfl, Names.nil _ _, below_alloc (Below.refl _ _) _⟩
set_option maxHeartbeats 800000 in
set_option maxRecDepth 100000 in
theorem ask_old (h : TabIs B w tb mb bs m) (hw : wrong c r = false) {kb : Nat} {k : K} (hk : mget bs c = some kb) (hK : KnownIs B w kb k) (hr : r < k.req) : Calls Try.prog 11 #[ptr tb, .int .i64 c, .int .i64 r] w (AskPost B w (4, zero, 0)) := by
  have hu := Try.underlying29
  have hup := Try.underlying61
  have hus := Try.underlying64
  have H : Aside0 (TabIs B w tb mb bs m) := .mk h
  obtain ⟨A, c', hb, hn⟩ := hK
  have c0 := (blk_cell (blk_alloc hb (.cells #[.int .i64 0, .string ⟨#[]⟩, .int .i64 0, .int .i64 0, .int .i64 0, .slice none 0 0] 29)) 0).trans rfl
  have c1 := (blk_cell (blk_alloc hb (.cells #[.int .i64 0, .string ⟨#[]⟩, .int .i64 0, .int .i64 0, .int .i64 0, .slice none 0 0] 29)) 1).trans rfl
  have b1 : decide (k.req < r) = false := decide_eq_false (by omega)
  have b2 : decide (r < k.req) = true := decide_eq_true hr
  clear hr hb
  clear h
  go_enter Try.func11, Try.ntmps11
  go_wp2_with fail
  refine (at_calls B tb mb bs m c _ (H.out.below (below_alloc (Below.refl _ _) _))).mono ?_
  rintro e w1 ⟨rfl, rfl⟩
  rw [hk]
  go_wp2_with fail
  refine (wrong_calls c r _).mono ?_
  rintro e w1 ⟨rfl, rfl⟩
  rw [hw]
  go_wp2_with fail
  exact bodyPost_ret (v := .tuple #[.int .i64 4, vres zero none 0, .int .i64 0]) (by simp [results, Try.results11, go_sem, vres, zero]; rfl) rfl ⟨none, 0, rfl, Names.nil _ _, below_alloc (Below.refl _ _) _⟩
set_option maxHeartbeats 800000 in
set_option maxRecDepth 100000 in
theorem ask_runs (h : TabIs B w tb mb bs m) (hw : wrong c r = false) {kb : Nat} {k : K} (hk : mget bs c = some kb) (hK : KnownIs B w kb k) (hr : k.req = r) (hd : k.done = false) : Calls Try.prog 11 #[ptr tb, .int .i64 c, .int .i64 r] w (AskPost B w (2, zero, 0)) := by
  have hu := Try.underlying29
  have hup := Try.underlying61
  have hus := Try.underlying64
  have H : Aside0 (TabIs B w tb mb bs m) := .mk h
  obtain ⟨A, c', hb, hn⟩ := hK
  rw [hd] at hb
  have c0 := (blk_cell (blk_alloc hb (.cells #[.int .i64 0, .string ⟨#[]⟩, .int .i64 0, .int .i64 0, .int .i64 0, .slice none 0 0] 29)) 0).trans rfl
  have c1 := (blk_cell (blk_alloc hb (.cells #[.int .i64 0, .string ⟨#[]⟩, .int .i64 0, .int .i64 0, .int .i64 0, .slice none 0 0] 29)) 1).trans rfl
  have b1 : decide (k.req < r) = false := decide_eq_false (by omega)
  have b2 : decide (r < k.req) = false := decide_eq_false (by omega)
  clear hr hb
  clear h
  go_enter Try.func11, Try.ntmps11
  go_wp2_with fail
  refine (at_calls B tb mb bs m c _ (H.out.below (below_alloc (Below.refl _ _) _))).mono ?_
  rintro e w1 ⟨rfl, rfl⟩
  rw [hk]
  go_wp2_with fail
  refine (wrong_calls c r _).mono ?_
  rintro e w1 ⟨rfl, rfl⟩
  rw [hw]
  go_wp2_with fail
  exact bodyPost_ret (v := .tuple #[.int .i64 2, vres zero none 0, .int .i64 0]) (by simp [results, Try.results11, go_sem, vres, zero]; rfl) rfl ⟨none, 0, rfl, Names.nil _ _, below_alloc (Below.refl _ _) _⟩
set_option maxHeartbeats 2000000 in
set_option maxRecDepth 100000 in
theorem ask_told (h : TabIs B w tb mb bs m) (hBw : B ≤ w.heap.size) (hw : wrong c r = false) {kb : Nat} {k : K} (hk : mget bs c = some kb) (hK : KnownIs B w kb k) (hr : k.req = r) (hd : k.done = true) : Calls Try.prog 11 #[ptr tb, .int .i64 c, .int .i64 r] w (AskPost B w (3, k.res, 0)) := by
  have hu := Try.underlying29
  have hup := Try.underlying61
  have hus := Try.underlying64
  have H : Aside0 (TabIs B w tb mb bs m) := .mk h
  obtain ⟨A, c', hb, hn⟩ := hK
  rw [hd] at hb
  have hb2 := blk_alloc hb (.cells #[.int .i64 0, .string ⟨#[]⟩, .int .i64 0, .int .i64 0, .int .i64 0, .slice none 0 0] 29)
  have c0 := (blk_cell hb2 0).trans rfl
  have c1 := (blk_cell hb2 1).trans rfl
  have c2 := (blk_cell hb2 2).trans rfl
  have c3 := (blk_cell hb2 3).trans rfl
  have c4 := (blk_cell hb2 4).trans rfl
  have c5 := (blk_cell hb2 5).trans rfl
  have c6 := (blk_cell hb2 6).trans rfl
  have c7 := (blk_cell hb2 7).trans rfl
  have N : Aside0 (Names B w A k.res.n c') := .mk hn
  have b1 : decide (k.req < r) = false := decide_eq_false (by omega)
  have b2 : decide (r < k.req) = false := decide_eq_false (by omega)
  clear hr hb hb2 h hn
  go_enter Try.func11, Try.ntmps11
  go_wp2_with fail
  refine (at_calls B tb mb bs m c _ (H.out.below (below_alloc (Below.refl _ _) _))).mono ?_
  rintro e w1 ⟨rfl, rfl⟩
  rw [hk]
  go_wp2_with fail
  refine (wrong_calls c r _).mono ?_
  rintro e w1 ⟨rfl, rfl⟩
  rw [hw]
  go_wp2_with fail
  refine (own_calls B A k.res c' _ (N.out.below (below_alloc (Below.refl _ _) _)) (by simp; omega)).mono ?_
  rintro e w1 ⟨A', c2', rfl, hn', hb'⟩
  have h1 := blk_below (blk_new w (.cells #[.int .i64 0, .string ⟨#[]⟩, .int .i64 0, .int .i64 0, .int .i64 0, .slice none 0 0] 29)) hb'
  have hB : Below w.heap.size w w1 := (below_alloc (Below.refl _ _) _).trans (hb'.mono (by simp))
  have f1 := blk_frozen h1
  have d0 := (blk_cell h1 0).trans rfl
  have d1 := (blk_cell h1 1).trans rfl
  have d2 := (blk_cell h1 2).trans rfl
  have d3 := (blk_cell h1 3).trans rfl
  have d4 := (blk_cell h1 4).trans rfl
  have d5 := (blk_cell h1 5).trans rfl
  have P := Aside0.mk h1
  have P3 := Aside0.mk hB
  have P4 := Aside0.mk hn'
  clear h1 hB hn' hb'
  unfold vres
  go_wp2_with fail
  have n1 := P4.out.far P.out (by decide) hBw 0 (.int .i64 k.res.e)
  have q1 := blk_set P.out 0 (.int .i64 k.res.e)
  have n2 := n1.far q1 (by decide) hBw 1 (.string k.res.d)
  have q2 := blk_set q1 1 (.string k.res.d)
  have n3 := n2.far q2 (by decide) hBw 2 (.int .i64 k.res.k)
  have q3 := blk_set q2 2 (.int .i64 k.res.k)
  have n4 := n3.far q3 (by decide) hBw 3 (.int .i64 k.res.l)
  have q4 := blk_set q3 3 (.int .i64 k.res.l)
  have n5 := n4.far q4 (by decide) hBw 4 (.int .i64 k.res.s)
  have q5 := blk_set q4 4 (.int .i64 k.res.s)
  have n6 := n5.far q5 (by decide) hBw 5 (.slice A' k.res.n.length c2')
  refine bodyPost_ret (v := .tuple #[.int .i64 3, vres k.res A' c2', .int .i64 0]) (by simp [results, Try.results11, go_sem, vres, d0, d1, d2, d3, d4, d5]) rfl ⟨A', c2', rfl, n6, ?_⟩
  exact (((((P3.out.setCell (Nat.le_refl _) _).setCell (Nat.le_refl _) _).setCell (Nat.le_refl _) _).setCell (Nat.le_refl _) _).setCell (Nat.le_refl _) _).setCell (Nat.le_refl _) _
theorem ask_calls (h : TabIs B w tb mb bs m) (hBw : B ≤ w.heap.size) : Calls Try.prog 11 #[ptr tb, .int .i64 c, .int .i64 r] w (AskPost B w (tAsk m c r)) := by
  unfold tAsk
  by_cases hw : wrong c r = true
  · rw [if_pos hw]; exact ask_wrong h hw
  rw [if_neg hw]
  replace hw : wrong c r = false := by simpa using hw
  cases hb : mget bs c with
  | none => rw [(h.look_none c).1 hb]; exact ask_none h hw hb
  | some kb =>
    obtain ⟨k, hk, hK⟩ := h.read c kb hb
    rw [hk]
    dsimp only
    by_cases h1 : k.req < r
    · rw [if_pos h1]; exact ask_new h hw hb hK h1
    rw [if_neg h1]
    by_cases h2 : r < k.req
    · rw [if_pos h2]; exact ask_old h hw hb hK h2
    rw [if_neg h2]
    by_cases h3 : k.done = true
    · rw [if_pos h3]; exact ask_told h hBw hw hb hK (by omega) h3
    · rw [if_neg h3]; exact ask_runs h hw hb hK (by omega) (by simpa using h3)
end
end Go.Proofs.Ytjjbikpjkbdabaa.Tab
