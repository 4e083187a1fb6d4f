/- A journal in memory: Seal, Done. -/
import Derived.Test.YtlmnfnkjbgnklaaJrnlH
import Derived.Deep.RegionLawGrows
import Derived.Deep.RegionHeld3
set_option linter.unusedVariables false
set_option linter.unusedSimpArgs false
namespace Go.Proofs.Ytlmnfnkjbgnklaa.Jrnl
open Go.RowKit Go.Proofs.YtlmnfnkjbgnklaaW.PrintWords Go.Proofs.YtlmnfnkjbgnklaaW.PrintLast Go.Proofs.YtlmnfnkjbgnklaaW.PrintMore Go.Proofs.Ytlmnfnkjbgnklaa.TxnS Go.Proofs.Ytlmnfnkjbgnklaa.Txn Go.Proofs.Ytlmnfnkjbgnklaa.JS Go.Proofs.Ytlmnfnkjbgnklaa.Run Go.Proofs.Ytlmnfnkjbgnklaa.Spec
/-- All blocks but some are as they were. -/
structure Fr (w w' : World) (f : Nat → Prop) : Prop where
  os : w'.os = w.os
  tape : w'.tape = w.tape
  output : w'.output = w.output
  size : w.heap.size ≤ w'.heap.size
  block : ∀ k, k < w.heap.size → ¬ f k → w'.heap[k]? = w.heap[k]?
theorem Fr.refl (w : World) (f : Nat → Prop) : Fr w w f := ⟨rfl, rfl, rfl, Nat.le_refl _, fun _ _ _ => rfl⟩
theorem Fr.of_below {w w' : World} (h : Below w.heap.size w w') (f : Nat → Prop) : Fr w w' f := ⟨h.os, h.tape, h.output, h.size, fun k hk _ => h.block k hk⟩
theorem Fr.trans {w w1 w' : World} {f : Nat → Prop} (h : Fr w w1 f) {g : Nat → Prop} (k : Fr w1 w' g) (hg : ∀ i, g i → f i ∨ w.heap.size ≤ i) : Fr w w' f :=
  ⟨k.os.trans h.os, k.tape.trans h.tape, k.output.trans h.output, Nat.le_trans h.size k.size, fun i hi hn => (k.block i (Nat.lt_of_lt_of_le hi h.size) (fun hgi => by
    rcases hg i hgi with h2 | h2
    · exact hn h2
    · omega)).trans (h.block i hi hn)⟩
theorem Fr.below {B : Nat} {W w w' : World} {f : Nat → Prop} (hW : Below B W w) (h : Fr w w' f) (hf : ∀ k, f k → B ≤ k) (hB : B ≤ w.heap.size) : Below B W w' :=
  ⟨h.os.trans hW.os, h.tape.trans hW.tape, h.output.trans hW.output, Nat.le_trans hW.size h.size, fun i hi => (h.block i (by omega) (fun hk => by have := hf i hk; omega)).trans (hW.block i hi)⟩
theorem Fr.of_grown {w w' : World} {r : Option Nat} (h : w.grownBy w' r) {f : Nat → Prop} (hf : ∀ k, r = some k → f k) : Fr w w' f := ⟨h.os, h.tape, h.output, h.size, fun k hk hn => h.block k hk (fun e => hn (hf k e.symm))⟩
theorem Fr.set (w : World) (b i : Nat) (u : Value) {f : Nat → Prop} (hf : f b) : Fr w (w.setCell ⟨b, i, none⟩ u) f := ⟨rfl, rfl, rfl, by simp [World.setCell], fun k hk hn => by
  have : ¬ b = k := fun e => hn (e ▸ hf)
  simp [World.setCell, Array.getElem?_modify, this]⟩
theorem blk_set {w : World} {g : Nat} {t : TypeId} {cs : Array Value} {fr : Nat × Nat} (h : w.heap[g]? = some (.cells cs t fr)) (i : Nat) (u : Value) : (w.setCell ⟨g, i, none⟩ u).heap[g]? = some (.cells (cs.setIfInBounds i u) t fr) := by
  simp [World.setCell, Array.getElem?_modify, h]
theorem blk_set_ne {w : World} {g b : Nat} (i : Nat) (u : Value) (h : b ≠ g) : (w.setCell ⟨b, i, none⟩ u).heap[g]? = w.heap[g]? := by
  simp [World.setCell, Array.getElem?_modify, h]
theorem JIs.fr {B jb : Nat} {v : Value} {J : Jr} {w w' : World} {f : Nat → Prop} (h : JIs B w jb v J) (hf : Fr w w' f) (hd : ∀ k, fp jb v k → ¬ f k) : JIs B w' jb v J := h.step fun k hk => hf.block k (h.lt hk) (hd k hk)
def JPost (B jb : Nat) (v : Value) (w : World) (r : Value) (J' : Jr) (e : Ending) (w' : World) : Prop :=
  ∃ v', e = .returned r ∧ JIs B w' jb v' J' ∧ Fr w w' (fp jb v) ∧ ∀ k, fp jb v' k → fp jb v k ∨ w.heap.size ≤ k
section
variable {B jb : Nat} {v : Value} {J : Jr} {w : World}
theorem JIs.set0 (h : JIs B w jb v J) (x : Int) : JIs B (w.setCell ⟨jb, 1, none⟩ (.int .i64 x)) jb v { J with tail := x } := ⟨blk_set h.blk 1 _, h.row.step fun k hk => blk_set_ne 1 _ (fun e => h.ne (e ▸ hk)), h.bd, h.ne⟩
theorem JIs.set2 (h : JIs B w jb v J) (x : Int) : JIs B (w.setCell ⟨jb, 2, none⟩ (.int .i64 x)) jb v { J with first := x } := ⟨blk_set h.blk 2 _, h.row.step fun k hk => blk_set_ne 2 _ (fun e => h.ne (e ▸ hk)), h.bd, h.ne⟩
theorem JIs.set3 (h : JIs B w jb v J) (x : Int) : JIs B (w.setCell ⟨jb, 3, none⟩ (.int .i64 x)) jb v { J with sealed := x } := ⟨blk_set h.blk 3 _, h.row.step fun k hk => blk_set_ne 3 _ (fun e => h.ne (e ▸ hk)), h.bd, h.ne⟩
theorem JIs.set4 (h : JIs B w jb v J) {v' : Value} {l : List Nat} (hr : RowX w B 3 v' (sv l)) (hn : v'.ownBlock ≠ some jb) : JIs B (w.setCell ⟨jb, 4, none⟩ v') jb v' { J with sizes := l } := ⟨blk_set h.blk 4 _, hr.step fun k hk => blk_set_ne 4 _ (fun e => hn (e ▸ hk)), h.bd, hn⟩
theorem sv_drop (l : List Nat) (k : Nat) : sv (l.drop k) = (sv l).drop k := by simp [sv, List.map_drop]
set_option maxHeartbeats 3200000 in
set_option maxRecDepth 100000 in
theorem seal_calls (h : JIs B w jb v J) (hw : JW J) : Calls Try.prog 16 #[ptr jb] w (JPost B jb v w (.agg #[.int .i64 0, .string (headJ (sealJ J))]) (sealJ J)) := by
  have hu := Try.underlying72
  have hup := Try.underlying23
  have huw := Try.underlying42
  obtain ⟨A, c, rfl⟩ := h.slice
  have P1 := Aside0.mk (blk_new w (.cells #[.int .i64 0, .string ⟨#[]⟩] 42))
  have B1 := Aside0.mk (below_alloc (Below.refl w.heap.size w) (.cells #[.int .i64 0, .string ⟨#[]⟩] 42))
  have H1 := Aside0.mk (h.below B1.out)
  have HJ : Aside0 (∀ k, fp jb (.slice A J.sizes.length c) k → k < w.heap.size) := ⟨fun k hk => h.lt hk⟩
  have HW := Aside0.mk hw
  clear h hw
  unfold ptr
  go_enter Try.func16, Try.ntmps16
  go_upto_region 1 with fail
  generalize hW : w.alloc (.cells #[.int .i64 0, .string ⟨#[]⟩] 42) = W1 at P1 B1 H1 ⊢
  clear hW
  have c4 := H1.out.c4
  have f3 := blk_frozen H1.out.blk 3
  have c3 := H1.out.c3
  go_upto_region 4 with fail
  have hne : jb ≠ w.heap.size := by have := HJ.out jb (.inl rfl); omega
  have H2 : Aside0 (JIs B (W1.setCell ⟨jb, 3, none⟩ (.int .i64 (J.sizes.length : Int))) jb (.slice A J.sizes.length c) (sealJ J)) := ⟨H1.out.set3 (J.sizes.length : Int)⟩
  have F2 : Aside0 (Fr w (W1.setCell ⟨jb, 3, none⟩ (.int .i64 (J.sizes.length : Int))) (fp jb (.slice A J.sizes.length c))) := ⟨(Fr.of_below B1.out _).trans (Fr.set W1 jb 3 _ (.inl rfl)) (fun _ h => .inl h)⟩
  have P2 := Aside0.mk ((blk_set_ne 3 (.int .i64 (J.sizes.length : Int)) hne).trans P1.out)
  have S2 : Aside0 (w.heap.size < (W1.setCell ⟨jb, 3, none⟩ (.int .i64 (J.sizes.length : Int))).heap.size) := ⟨blk_lt P2.out⟩
  generalize W1.setCell ⟨jb, 3, none⟩ (.int .i64 (J.sizes.length : Int)) = W2 at H2 F2 P2 S2 ⊢
  clear c4 f3 c3 H1 B1 P1
  have HX := Aside0.mk (header_calls H2.out (sealJ_ok HW.out).hw)
  obtain ⟨hd, hhd⟩ : ∃ hd, hd = headJ (sealJ J) := ⟨_, rfl⟩
  rw [← hhd] at HX
  have HH := Aside0.mk hhd
  clear hhd
  unfold ptr at HX
  go_wp2_with fail
  refine HX.out.mono ?_
  rintro e w3 ⟨rfl, hB⟩
  have H3 := Aside0.mk (H2.out.below hB)
  have F3 := Aside0.mk (F2.out.trans (Fr.of_below hB (fp jb (.slice A J.sizes.length c))) (fun _ h => .inl h))
  have P3 := Aside0.mk ((hB.block _ S2.out).trans P2.out)
  obtain ⟨g, hg⟩ : ∃ g, g = w.heap.size := ⟨_, rfl⟩
  rw [← hg] at P3 ⊢
  have HG := Aside0.mk hg
  clear hB H2 F2 P2 S2 HX hne hg
  have p0 := (blk_cell P3.out 0).trans (Eq.refl (some (Value.int .i64 0)))
  have p1 := (blk_cell P3.out 1).trans (Eq.refl (some (Value.string ⟨#[]⟩)))
  have f0 := blk_frozen P3.out 0
  have f1 := blk_frozen P3.out 1
  go_wp2_with fail
  have P4 : Aside0 (((w3.setCell ⟨g, 0, none⟩ (.int .i64 0)).setCell ⟨g, 1, none⟩ (.string hd)).heap[g]? = some (.cells #[.int .i64 0, .string hd] 42 (0, 0))) := ⟨(blk_set (blk_set P3.out 0 _) 1 _).trans rfl⟩
  have F4 : Aside0 (Fr w3 ((w3.setCell ⟨g, 0, none⟩ (.int .i64 0)).setCell ⟨g, 1, none⟩ (.string hd)) (· = g)) := ⟨(Fr.set w3 g 0 (.int .i64 0) (f := (· = g)) rfl).trans (Fr.set _ g 1 (.string hd) (f := (· = g)) rfl) (fun _ h => .inl h)⟩
  generalize (w3.setCell ⟨g, 0, none⟩ (.int .i64 0)).setCell ⟨g, 1, none⟩ (.string hd) = w4 at P4 F4 ⊢
  clear p0 p1 f0 f1
  have p0 := (blk_cell P4.out 0).trans (Eq.refl (some (Value.int .i64 0)))
  have p1 := (blk_cell P4.out 1).trans (Eq.refl (some (Value.string hd)))
  refine bodyPost_ret (v := .agg #[.int .i64 0, .string hd]) (by simp [results, Try.results16, go_sem, p0, p1, huw]) rfl ⟨_, by rw [HH.out], H3.out.fr F4.out (fun k hk e => ?_), F3.out.trans F4.out (fun k hk => .inr (by rw [hk, HG.out]; exact Nat.le_refl _)), fun k hk => .inl hk⟩
  have h1 := HJ.out k hk
  rw [e, HG.out] at h1
  exact Nat.lt_irrefl _ h1
set_option maxHeartbeats 3200000 in
set_option maxRecDepth 100000 in
theorem done_no (h : JIs B w jb v J) (k : Int) (hk : k < 0 ∨ J.sealed < k) : Calls Try.prog 14 #[ptr jb, .int .i64 k] w fun e w' => e = .returned (.tuple #[.agg #[.int .i64 0, .string ⟨#[]⟩], .int .i64 1]) ∧ Below w.heap.size w w' := by
  have hu := Try.underlying72
  have hup := Try.underlying23
  have huw := Try.underlying42
  have P1 := Aside0.mk (blk_new w (.cells #[.int .i64 0, .string ⟨#[]⟩] 42))
  have B1 := Aside0.mk (below_alloc (Below.refl w.heap.size w) (.cells #[.int .i64 0, .string ⟨#[]⟩] 42))
  have HCt := Aside0.mk (count_calls (h.below B1.out))
  clear h
  generalize J.sealed = sl at *
  generalize J.sizes.length = zl at *
  obtain ⟨g, hg⟩ : ∃ g, g = w.heap.size := ⟨_, rfl⟩
  have HG := Aside0.mk hg
  have hb : decide (k < 0) = true ∨ (decide (k < 0) = false ∧ decide (k > sl) = true) := by simp; omega
  unfold ptr at *
  go_enter Try.func14, Try.ntmps14
  go_upto_region 1 with fail
  generalize hW : w.alloc (.cells #[.int .i64 0, .string ⟨#[]⟩] 42) = W1 at P1 B1 HCt ⊢
  clear hW
  rw [← hg] at P1 ⊢
  clear hg
  go_wp2_with fail
  refine HCt.out.mono ?_
  rintro e w2 ⟨rfl, hB⟩
  have P2 := Aside0.mk ((hB.block _ (blk_lt P1.out)).trans P1.out)
  have B2 := Aside0.mk (B1.out.trans (hB.mono B1.out.size))
  clear hB P1 HCt
  have p0 := (blk_cell P2.out 0).trans (Eq.refl (some (Value.int .i64 0)))
  have p1 := (blk_cell P2.out 1).trans (Eq.refl (some (Value.string ⟨#[]⟩)))
  have f0 := blk_frozen P2.out 0
  have f1 := blk_frozen P2.out 1
  have P4 : Aside0 (((w2.setCell ⟨g, 0, none⟩ (.int .i64 0)).setCell ⟨g, 1, none⟩ (.string ⟨#[]⟩)).heap[g]? = some (.cells #[.int .i64 0, .string ⟨#[]⟩] 42 (0, 0))) := ⟨(blk_set (blk_set P2.out 0 _) 1 _).trans rfl⟩
  have B4 : Aside0 (Below w.heap.size w ((w2.setCell ⟨g, 0, none⟩ (.int .i64 0)).setCell ⟨g, 1, none⟩ (.string ⟨#[]⟩))) := ⟨(B2.out.setCell (p := ⟨g, 0, none⟩) (by rw [HG.out]; exact Nat.le_refl _) _).setCell (p := ⟨g, 1, none⟩) (by rw [HG.out]; exact Nat.le_refl _) _⟩
  rcases hb with b1 | ⟨b1, b2⟩
  all_goals
    go_wp2_with fail
    generalize (w2.setCell ⟨g, 0, none⟩ (.int .i64 0)).setCell ⟨g, 1, none⟩ (.string ⟨#[]⟩) = w4 at P4 B4 ⊢
    clear p0 p1 f0 f1
    have p0 := (blk_cell P4.out 0).trans (Eq.refl (some (Value.int .i64 0)))
    have p1 := (blk_cell P4.out 1).trans (Eq.refl (some (Value.string ⟨#[]⟩)))
    exact bodyPost_ret (v := .tuple #[.agg #[.int .i64 0, .string ⟨#[]⟩], .int .i64 1]) (by simp [results, Try.results14, go_sem, p0, p1, huw]) rfl ⟨rfl, B4.out⟩
set_option maxHeartbeats 3200000 in
set_option maxRecDepth 100000 in
theorem done_yes (h : JIs B w jb v J) (hw : JW J) (k : Nat) (hk : (k : Int) ≤ J.sealed) : Calls Try.prog 14 #[ptr jb, .int .i64 (k : Int)] w (JPost B jb v w (.tuple #[.agg #[.int .i64 0, .string (headJ (doneJ J k))], .int .i64 0]) (doneJ J k)) := by
  have hu := Try.underlying72
  have hup := Try.underlying23
  have huw := Try.underlying42
  obtain ⟨A, c, rfl⟩ := h.slice
  have P1 := Aside0.mk (blk_new w (.cells #[.int .i64 0, .string ⟨#[]⟩] 42))
  have B1 := Aside0.mk (below_alloc (Below.refl w.heap.size w) (.cells #[.int .i64 0, .string ⟨#[]⟩] 42))
  have H1 := Aside0.mk (h.below B1.out)
  have HJ : Aside0 (∀ k, fp jb (.slice A J.sizes.length c) k → k < w.heap.size) := ⟨fun k hk => h.lt hk⟩
  have HW := Aside0.mk hw
  have hkl : k ≤ J.sizes.length := by have := hw.sn; omega
  have HCt := Aside0.mk (count_calls H1.out)
  have hsm := hw.sml
  have htk := sum_take_le J.sizes k
  obtain ⟨s, hs⟩ : ∃ s, s = (J.sizes.take k).sum := ⟨_, rfl⟩
  obtain ⟨T', hT'⟩ : ∃ T', T' = (J.tail + (s : Int)) % J.ring := ⟨_, rfl⟩
  have HSs := Aside0.mk hs
  have HT' := Aside0.mk hT'
  have HTm : Aside0 ((J.tail + (s : Int)).tmod J.ring = T') := ⟨by rw [hT']; exact Int.tmod_eq_emod_of_nonneg (by have := hw.t0; omega)⟩
  rw [← hs] at htk
  have ht1 := hw.t0
  have ht2 := hw.tr
  have ht3 := hw.r255
  have ht4 := hw.f1
  have ht5 := hw.fn
  have b1 : decide ((k : Int) < 0) = false := decide_eq_false (by omega)
  have b2 : decide ((k : Int) > J.sealed) = false := decide_eq_false (by omega)
  have w1 : IntKind.i64.wrap (J.tail + (s : Int)) = J.tail + (s : Int) := IntWalk.i64_in _ (by omega)
  have q2 : IntKind.i64.wrap (J.first + (k : Int)) = J.first + (k : Int) := IntWalk.i64_in _ (by omega)
  have q3 : IntKind.i64.wrap (J.sealed - (k : Int)) = J.sealed - (k : Int) := IntWalk.i64_in _ (by have := hw.sn; omega)
  have hr0 : (J.ring == 0) = false := by have := hw.r7; simp; omega
  obtain ⟨g, hg⟩ : ∃ g, g = w.heap.size := ⟨_, rfl⟩
  have HG := Aside0.mk hg
  have HU : Aside0 (∀ W, Below (w.alloc (.cells #[.int .i64 0, .string ⟨#[]⟩] 42)).heap.size (w.alloc (.cells #[.int .i64 0, .string ⟨#[]⟩] 42)) W → Calls Try.prog 32 #[ptr jb, .int .i64 (k : Int)] W fun e w' => e = .returned (.int .i64 (s : Int)) ∧ Below W.heap.size W w') := ⟨fun W hb => by
    have := used_calls (H1.out.below hb) k hkl (by omega) (by omega)
    rwa [← hs] at this⟩
  have HKs := Aside0.mk hk
  clear h hw hk hs hT'
  unfold ptr at *
  go_enter Try.func14, Try.ntmps14
  go_upto_region 1 with fail
  generalize hW : w.alloc (.cells #[.int .i64 0, .string ⟨#[]⟩] 42) = W1 at P1 B1 H1 HCt HU ⊢
  clear hW
  rw [← hg] at P1 ⊢
  clear hg
  go_wp2_with fail
  refine HCt.out.mono ?_
  rintro e w2 ⟨rfl, hB⟩
  have P2 := Aside0.mk ((hB.block _ (blk_lt P1.out)).trans P1.out)
  have B12 := Aside0.mk hB
  have B2 := Aside0.mk (B1.out.trans (hB.mono B1.out.size))
  clear hB HCt
  go_upto_region 6 with fail
  have HC : Aside0 (∀ W, Below W1.heap.size W1 W → W.cell? ⟨jb, 0, none⟩ = some (.int .i64 J.ring) ∧ W.cell? ⟨jb, 1, none⟩ = some (.int .i64 J.tail) ∧ W.frozen? ⟨jb, 1, none⟩ = false) := ⟨fun W hb => ⟨(H1.out.below hb).c0, (H1.out.below hb).c1, blk_frozen (H1.out.below hb).blk 1⟩⟩
  have B0 : Aside0 (Below W1.heap.size W1 w2.drew) := ⟨below_drew1 B12.out⟩
  have hr1 : ¬ J.ring = 0 := by simpa using hr0
  have HGl : Aside0 (g < W1.heap.size) := ⟨blk_lt P1.out⟩
  have hjg : jb ≠ g := by have := HJ.out jb (.inl rfl); have := HG.out; omega
  have HJG := Aside0.mk hjg
  clear hjg
  go_cut [5] (fun v5 wc => v5 = .int .i64 0 ∧ Aside0 (JIs B wc jb (.slice A J.sizes.length c) { J with tail := T' }) ∧ Aside0 (Fr w wc (fp jb (.slice A J.sizes.length c))) ∧ Aside0 (wc.heap[g]? = some (.cells #[.int .i64 0, .string ⟨#[]⟩] 42 (0, 0))))
  case first =>
    obtain ⟨c0, c1, f1⟩ := HC.out _ B12.out
    obtain ⟨c0d, c1d, f1d⟩ := HC.out _ B0.out
    go_region_with (go_at_call 32; refine (HU.out _ B0.out).mono ?_; rintro e w3 ⟨rfl, hB⟩; have B3 := Aside0.mk (B0.out.trans (hB.mono B0.out.size)); obtain ⟨c0e, c1e, f1e⟩ := HC.out _ B3.out; clear hB)
    all_goals
      have H3 := Aside0.mk ((H1.out.below B3.out).set0 T')
      have F3 := Aside0.mk ((Fr.of_below (B1.out.trans (B3.out.mono B1.out.size)) (fp jb (.slice A J.sizes.length c))).trans (Fr.set w3 jb 1 (.int .i64 T') (f := fp jb (.slice A J.sizes.length c)) (.inl rfl)) (fun _ h => .inl h))
      have P3 := Aside0.mk ((blk_set_ne 1 (.int .i64 T') HJG.out).trans ((B3.out.block _ HGl.out).trans P1.out))
      first | rw [← HT'.out] | rw [HTm.out]
      generalize w3.setCell ⟨jb, 1, none⟩ (.int .i64 T') = w4 at H3 F3 P3 ⊢
      clear c0 c1 f1 c0d c1d f1d c0e c1e f1e
      go_wp2_with fail
      go_meet
      case rel => exact ⟨rfl, H3, F3, P3⟩
  case rest =>
    obtain ⟨rfl, H3, F3, P3⟩ := hcut
    clear HC HU B0 B12 P1 P2 H1 HGl w1 hr0 hr1 b1 b2 HTm ht1 ht2 ht3
    have H4 := Aside0.mk (H3.out.set2 (J.first + (k : Int)))
    have F4 := Aside0.mk (F3.out.trans (Fr.set wc jb 2 (.int .i64 (J.first + (k : Int))) (f := fp jb (.slice A J.sizes.length c)) (.inl rfl)) (fun _ h => .inl h))
    have P4 := Aside0.mk ((blk_set_ne 2 (.int .i64 (J.first + (k : Int))) HJG.out).trans P3.out)
    have c2 := H3.out.c2
    have f2 := blk_frozen H3.out.blk 2
    dsimp only at c2
    go_upto_region 8 with fail
    generalize wc.setCell ⟨jb, 2, none⟩ (.int .i64 (J.first + (k : Int))) = w4 at H4 F4 P4 ⊢
    clear c2 f2 H3 F3 P3 q2
    have H5 := Aside0.mk (H4.out.set3 (J.sealed - (k : Int)))
    have F5 := Aside0.mk (F4.out.trans (Fr.set w4 jb 3 (.int .i64 (J.sealed - (k : Int))) (f := fp jb (.slice A J.sizes.length c)) (.inl rfl)) (fun _ h => .inl h))
    have P5 := Aside0.mk ((blk_set_ne 3 (.int .i64 (J.sealed - (k : Int))) HJG.out).trans P4.out)
    have c3 := H4.out.c3
    have f3 := blk_frozen H4.out.blk 3
    dsimp only at c3
    go_upto_region 9 with fail
    generalize w4.setCell ⟨jb, 3, none⟩ (.int .i64 (J.sealed - (k : Int))) = w5 at H5 F5 P5 ⊢
    clear c3 f3 H4 F4 P4 q3
    have c4 := H5.out.c4
    have f4 := blk_frozen H5.out.blk 4
    have hlc : J.sizes.length ≤ c := by
      rcases H5.out.row with ⟨h1, h2⟩ | ⟨g, off, cap, C, h1, _, _, h3, _⟩
      · simp only [Value.slice.injEq] at h1; omega
      · simp only [Value.slice.injEq] at h1
        have := h1.2.2
        rw [sv_length] at h3
        dsimp only at h3
        omega
    go_upto_region 11 with fail
    obtain ⟨hr6, ho6⟩ := RowX.cut (k := k) H5.out.row (by rw [sv_length]) hkl
    dsimp only at hr6
    rw [← sv_drop] at hr6
    have hn6 := H5.out.ne
    rw [← ho6] at hn6
    have H6 : Aside0 (JIs B (w5.setCell ⟨jb, 4, none⟩ (.slice (if J.sizes.length = k then A else A.map fun x => x.add k) (J.sizes.length - k) (J.sizes.length - k))) jb (.slice (if J.sizes.length = k then A else A.map fun x => x.add k) (J.sizes.length - k) (J.sizes.length - k)) (doneJ J k)) := ⟨by
      have := H5.out.set4 hr6 hn6
      have e : (doneJ J k) = { ring := J.ring, tail := T', first := J.first + (k : Int), sealed := J.sealed - (k : Int), sizes := J.sizes.drop k } := by
        unfold doneJ
        rw [HT'.out, HSs.out]
      rw [e]
      exact this⟩
    have F6 := Aside0.mk (F5.out.trans (Fr.set w5 jb 4 (.slice (if J.sizes.length = k then A else A.map fun x => x.add k) (J.sizes.length - k) (J.sizes.length - k)) (f := fp jb (.slice A J.sizes.length c)) (.inl rfl)) (fun _ h => .inl h))
    have P6 := Aside0.mk ((blk_set_ne 4 (.slice (if J.sizes.length = k then A else A.map fun x => x.add k) (J.sizes.length - k) (J.sizes.length - k)) HJG.out).trans P5.out)
    have HO6 := Aside0.mk ho6
    clear hr6 hn6 ho6 c4 f4 H5 F5 P5 hlc
    generalize w5.setCell ⟨jb, 4, none⟩ (.slice (if J.sizes.length = k then A else A.map fun x => x.add k) (J.sizes.length - k) (J.sizes.length - k)) = w6 at H6 F6 P6 ⊢
    generalize (if J.sizes.length = k then A else A.map fun x => x.add k) = A6 at H6 HO6
    have HX := Aside0.mk (header_calls H6.out (doneJ_ok HW.out k HKs.out).hw)
    obtain ⟨hd, hhd⟩ : ∃ hd, hd = headJ (doneJ J k) := ⟨_, rfl⟩
    rw [← hhd] at HX
    have HH := Aside0.mk hhd
    clear hhd
    unfold ptr at HX
    go_wp2_with fail
    refine HX.out.mono ?_
    rintro e w7 ⟨rfl, hB⟩
    have H7 := Aside0.mk (H6.out.below hB)
    have F7 := Aside0.mk (F6.out.trans (Fr.of_below hB (fp jb (.slice A J.sizes.length c))) (fun _ h => .inl h))
    have P7 := Aside0.mk ((hB.block _ (blk_lt P6.out)).trans P6.out)
    clear hB H6 F6 P6 HX
    have p0 := (blk_cell P7.out 0).trans (Eq.refl (some (Value.int .i64 0)))
    have p1 := (blk_cell P7.out 1).trans (Eq.refl (some (Value.string ⟨#[]⟩)))
    have f0 := blk_frozen P7.out 0
    have f1 := blk_frozen P7.out 1
    go_wp2_with fail
    have P8 : Aside0 (((w7.setCell ⟨g, 0, none⟩ (.int .i64 0)).setCell ⟨g, 1, none⟩ (.string hd)).heap[g]? = some (.cells #[.int .i64 0, .string hd] 42 (0, 0))) := ⟨(blk_set (blk_set P7.out 0 _) 1 _).trans rfl⟩
    have F8 : Aside0 (Fr w7 ((w7.setCell ⟨g, 0, none⟩ (.int .i64 0)).setCell ⟨g, 1, none⟩ (.string hd)) (· = g)) := ⟨(Fr.set w7 g 0 (.int .i64 0) (f := (· = g)) rfl).trans (Fr.set _ g 1 (.string hd) (f := (· = g)) rfl) (fun _ h => .inl h)⟩
    generalize (w7.setCell ⟨g, 0, none⟩ (.int .i64 0)).setCell ⟨g, 1, none⟩ (.string hd) = w8 at P8 F8 ⊢
    clear p0 p1 f0 f1
    have p0 := (blk_cell P8.out 0).trans (Eq.refl (some (Value.int .i64 0)))
    have p1 := (blk_cell P8.out 1).trans (Eq.refl (some (Value.string hd)))
    have HFp : Aside0 (∀ i, fp jb (.slice A6 (J.sizes.length - k) (J.sizes.length - k)) i → fp jb (.slice A J.sizes.length c) i) := ⟨fun i hi => by
      rcases hi with rfl | hi
      · exact .inl rfl
      · exact .inr (by rw [← HO6.out]; exact hi)⟩
    refine bodyPost_ret (v := .tuple #[.agg #[.int .i64 0, .string hd], .int .i64 0]) (by simp [results, Try.results14, go_sem, p0, p1, huw]) rfl ⟨_, by rw [HH.out], H7.out.fr F8.out (fun i hi e => ?_), F7.out.trans F8.out (fun i hi => .inr (by rw [hi, HG.out]; exact Nat.le_refl _)), fun i hi => .inl (HFp.out i hi)⟩
    have h1 := HJ.out i (HFp.out i hi)
    rw [e, HG.out] at h1
    exact Nat.lt_irrefl _ h1
end
end Go.Proofs.Ytlmnfnkjbgnklaa.Jrnl
