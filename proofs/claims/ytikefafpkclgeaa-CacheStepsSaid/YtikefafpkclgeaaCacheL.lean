/- The program's cache: Load. -/
import Derived.Test.YtikefafpkclgeaaCacheH
import Derived.Test.YtikefafpkclgeaaMapE
import Derived.Shelf.SlicesE.IndexFunc
set_option linter.unusedVariables false
set_option linter.unusedSimpArgs false
namespace Go.Proofs.Ytikefafpkclgeaa.Cache
open Go.RowKit Go.Shelf Go.Proofs.YtikefafpkclgeaaW.PrintWords Go.Proofs.YtikefafpkclgeaaW.PrintLast Go.Proofs.YtikefafpkclgeaaW.PrintMore Go.Proofs.Ytikefafpkclgeaa.Maps Go.Proofs.Ytikefafpkclgeaa.CacheS
theorem own_cell {w : World} {base : Nat} {e : TypeId} {size : Nat} {v : Value} {n : Nat} {xs : List Value} (h : w.ownsRow base e size v n xs) {j : Nat} {u : Value} (hj : xs[j]? = some u) :
    ∃ g cap, v = .slice (some ⟨g, 0, none⟩) n cap ∧ w.cell? ⟨g, j, none⟩ = some u := by
  rcases h.2 with ⟨rfl, h0⟩ | ⟨g, cap, cur, rfl, _, hh, _, _, _, ht⟩
  · have : xs = [] := List.eq_nil_of_length_eq_zero (by rw [h.1, h0, Nat.zero_mul])
    rw [this] at hj
    simp at hj
  · refine ⟨g, cap, rfl, ?_⟩
    have h1 : w.cell? ⟨g, j, none⟩ = cur[j]? := blk_cell hh j
    rw [h1, ← Array.getElem?_toList]
    rw [← ht, List.getElem?_take] at hj
    split at hj
    · exact hj
    · simp at hj
theorem own_keep {w w' : World} {b : Nat} {e : TypeId} {size : Nat} {v : Value} {n : Nat} {xs : List Value} (h : w.ownsRow b e size v n xs) (hb : ∀ k, b ≤ k → k < w.heap.size → w'.heap[k]? = w.heap[k]?) : w'.ownsRow b e size v n xs := by
  refine ⟨h.1, ?_⟩
  rcases h.2 with h2 | ⟨g, cap, cur, hv, hg, hk, rest⟩
  · exact .inl h2
  · exact .inr ⟨g, cap, cur, hv, hg, (hb g hg (blk_lt hk)).trans hk, rest⟩
theorem own_below {w w' : World} {b : Nat} {e : TypeId} {size : Nat} {v : Value} {n : Nat} {xs : List Value} (h : w.ownsRow b e size v n xs) (hB : Below w.heap.size w w') : w'.ownsRow b e size v n xs := own_keep h fun k _ hl => hB.block k hl
theorem own_mono {w : World} {b b' : Nat} {e : TypeId} {size : Nat} {v : Value} {n : Nat} {xs : List Value} (h : w.ownsRow b' e size v n xs) (hb : b ≤ b') : w.ownsRow b e size v n xs := by
  refine ⟨h.1, ?_⟩
  rcases h.2 with h2 | ⟨g, cap, cur, hv, hg, rest⟩
  · exact .inl h2
  · exact .inr ⟨g, cap, cur, hv, by omega, rest⟩
section
variable {B : Nat} {w w1 w' : World} {cb mb : Nat} {fr ck : Int} {T : Nat} {E E1 E' : List Ent}
theorem CPost.from (h1 : Fr w w1 (fp cb mb E)) (hs : ∀ k, fp cb mb E1 k → fp cb mb E k) {L' : List F} (h : CPost B cb mb fr T E1 w1 L' w') : CPost B cb mb fr T E w L' w' := by
  obtain ⟨E', ck', h2, h3, h4, h5⟩ := h
  exact ⟨E', ck', h2, h3, h1.trans h4 (fun k hk => .inl (hs k hk)), fun k hk => (h5 k hk).imp (hs k) (Nat.le_trans h1.size)⟩
theorem CIs.add (h : CIs B w cb mb fr ck T E) {k : Int} {d : ByteArray} {fb : Nat} {g : Int → Option Value} (hk : ∀ e ∈ E, e.b ≠ k) (hr : 0 ≤ k ∧ k < 1024) (hcap : (E.length : Int) < fr) (hfb : w.heap.size ≤ fb) (hB : B ≤ w.heap.size)
    (g2 : ∀ e ∈ E, g e.b = some (ptr e.a)) (g3 : ∀ k, (∀ e ∈ E, e.b ≠ k) → g k = none)
    (P1 : w'.heap[cb]? = some (.cells #[.int .i64 fr, .int .i64 (ck + 1), .map (some mb)] 57 (0, 0))) (P2 : w'.heap[fb]? = some (.cells #[.int .i64 0, .int .i64 (ck + 1), .string d, .bool false] 65 (0, 0)))
    (hm : MapF w' (Value.int .i64) mb (fput g k (ptr fb))) (hF : Fr w w' (fun k => k = cb ∨ k = mb)) : CPost B cb mb fr (T + 1) E w (E.map Ent.f ++ [⟨k, 0, d, false⟩]) w' := by
  have hin : ∀ x ∈ E ++ [(⟨k, 0, d, false, ck + 1, fb⟩ : Ent)], x ∈ E ∨ x = ⟨k, 0, d, false, ck + 1, fb⟩ := fun x hx => by
    rcases List.mem_append.1 hx with hx | hx
    · exact .inl hx
    · exact .inr (by simpa using hx)
  have hce : ∀ e ∈ E, w'.heap[e.a]? = w.heap[e.a]? := fun e he => hF.block e.a (h.hel.lt he) (fun q => by
    rcases q with q | q
    · exact h.cne he q
    · exact h.hel.ne he q)
  have hlen := h.hel.len
  have hfr := h.frr
  refine ⟨E ++ [⟨k, 0, d, false, ck + 1, fb⟩], ck + 1, by simp [Ent.f], ⟨P1, ⟨⟨_, hm, ?_, ?_⟩, ?_, ?_, ?_, ?_, h.hel.bm, by simp; omega, ?_⟩, ?_, ?_, h.bc, ⟨by have := h.ckT; omega, by have := h.ckT; omega⟩, ?_, by simp; omega, h.frr⟩, ⟨hF.os, hF.tape, hF.output, hF.size, fun i hi hn => hF.block i hi (fun q => by
    rcases q with q | q
    · exact hn (.inl q)
    · exact hn (.inr (.inl q)))⟩, ?_⟩
  · intro x hx
    unfold fput
    rcases hin x hx with hx | rfl
    · rw [if_neg (fun q => hk x hx q.symm)]; exact g2 x hx
    · rw [if_pos rfl]
  · intro c hc
    unfold fput
    rw [if_neg (fun q => hc _ (List.mem_append_right _ (List.mem_singleton.2 rfl)) q)]
    exact g3 c fun x hx => hc x (List.mem_append_left _ hx)
  · intro x hx
    rcases hin x hx with hx | rfl
    · exact (hce x hx).trans (h.hel.cel x hx)
    · exact P2
  · rw [List.map_append, List.nodup_append]
    refine ⟨h.hel.nb, by simp, fun a ha b hb => ?_⟩
    obtain ⟨x, hx, rfl⟩ := List.mem_map.1 ha
    obtain rfl : b = k := by simpa using hb
    exact hk x hx
  · rw [List.map_append, List.nodup_append]
    refine ⟨h.hel.na, by simp, fun a ha b hb => ?_⟩
    obtain ⟨x, hx, rfl⟩ := List.mem_map.1 ha
    obtain rfl : b = fb := by simpa using hb
    have := h.hel.lt hx
    omega
  · intro x hx
    rcases hin x hx with hx | rfl
    · exact h.hel.far x hx
    · exact Nat.le_trans hB hfb
  · intro x hx
    rcases hin x hx with hx | rfl
    · exact h.hel.rng x hx
    · exact hr
  · rw [List.pairwise_append]
    refine ⟨h.ord, by simp, fun x hx y hy => ?_⟩
    obtain rfl : y = ⟨k, 0, d, false, ck + 1, fb⟩ := by simpa using hy
    have := h.clk x hx
    show x.u < ck + 1
    omega
  · intro x hx
    rcases hin x hx with hx | rfl
    · have := h.clk x hx; omega
    · exact Int.le_refl _
  · intro x hx
    rcases hin x hx with hx | rfl
    · have := h.pT x hx; omega
    · exact ⟨Int.le_refl _, by show (0 : Int) ≤ _; omega⟩
  · intro i hi
    rcases hi with q | q | ⟨x, hx, q⟩
    · exact .inl (.inl q)
    · exact .inl (.inr (.inl q))
    · rcases hin x hx with hx | rfl
      · exact .inl (.inr (.inr ⟨x, hx, q⟩))
      · exact .inr (q ▸ hfb)
theorem CIs.drop (h : CIs B w cb mb fr ck T E) {v : Ent} (hv : v ∈ E) {g : Int → Option Value} (g2 : ∀ e ∈ E, g e.b = some (ptr e.a)) (g3 : ∀ k, (∀ e ∈ E, e.b ≠ k) → g k = none)
    (hm : MapF w' (Value.int .i64) mb (fdel g v.b)) (hF : Fr w w' (fun k => k = mb)) :
    CIs B w' cb mb fr ck T (rest Ent.b E v.b) ∧ (∀ e ∈ rest Ent.b E v.b, fdel g v.b e.b = some (ptr e.a)) ∧ (∀ k, (∀ e ∈ rest Ent.b E v.b, e.b ≠ k) → fdel g v.b k = none) ∧ ∀ k, fp cb mb (rest Ent.b E v.b) k → fp cb mb E k := by
  have hce : ∀ e ∈ E, w'.heap[e.a]? = w.heap[e.a]? := fun e he => hF.block e.a (h.hel.lt he) (h.hel.ne he)
  have hsub : (rest Ent.b E v.b).Sublist E := rest_sub
  have hm2 : ∀ e ∈ rest Ent.b E v.b, fdel g v.b e.b = some (ptr e.a) := fun e he => by
    have := rest_mem.1 he
    unfold fdel
    rw [if_neg (fun q => this.2 q.symm)]
    exact g2 e this.1
  have hm3 : ∀ k, (∀ e ∈ rest Ent.b E v.b, e.b ≠ k) → fdel g v.b k = none := fun k hk => by
    unfold fdel
    by_cases q : v.b = k
    · rw [if_pos q]
    · rw [if_neg q]
      exact g3 k fun e he hek => hk e (rest_mem.2 ⟨he, fun z => q (z.symm.trans hek)⟩) hek
  refine ⟨⟨(hF.block cb (blk_lt h.blk) h.cm).trans h.blk, ⟨⟨_, hm, hm2, hm3⟩, fun e he => (hce e (hsub.subset he)).trans (h.hel.cel e (hsub.subset he)), h.hel.nb.sublist (hsub.map _), h.hel.na.sublist (hsub.map _), fun e he => h.hel.far e (hsub.subset he), h.hel.bm, Nat.le_trans hsub.length_le h.hel.len, fun e he => h.hel.rng e (hsub.subset he)⟩, h.ord.sublist hsub, fun e he => h.clk e (hsub.subset he), h.bc, h.ckT, fun e he => h.pT e (hsub.subset he), Int.le_trans (by exact_mod_cast hsub.length_le) h.cap, h.frr⟩, hm2, hm3, fun k hk => ?_⟩
  rcases hk with q | q | ⟨x, hx, q⟩
  · exact .inl q
  · exact .inr (.inl q)
  · exact .inr (.inr ⟨x, hsub.subset hx, q⟩)
set_option maxHeartbeats 3200000 in
set_option maxRecDepth 100000 in
theorem load1_calls (h : CIs B w cb mb fr ck T E) (gc : Nat) (hg : w.cell? ⟨gc, 0, none⟩ = some (ptr cb)) {x : Ent} (hx : x ∈ E) : Calls Try.prog 28 #[.int .i64 x.b, .pointer (some ⟨gc, 0, none⟩)] w fun e w' => e = .returned (.bool (free x.f)) ∧ ∃ q, w' = w.drewN q := by
  have hpp := Try.underlying23
  have hu := Try.underlying57
  have hpf := Try.underlying59
  have hf := Try.underlying65
  have huu := Try.underlying63
  have c2 := h.c2
  have P := h.hel.cel x hx
  unfold cells at P
  have x0 := (blk_cell P 0).trans (Eq.refl (some (Value.int .i64 x.p)))
  have x3 := (blk_cell P 3).trans (Eq.refl (some (Value.bool x.y)))
  obtain ⟨g, h1, h2⟩ := h.hel.look
  have hl1 := h1.lookup (KeyLaw.int Try.underlying3) Try.underlying55 (zero_fr w) x.b
  rw [h2, look_hit h hx] at hl1
  have hfree : (((x.p == 0) = true) ∧ free x.f = !x.y) ∨ (((x.p == 0) = false) ∧ free x.f = false) := by
    unfold free Ent.f
    by_cases q : x.p = 0
    · exact .inl ⟨by simpa using q, by simp [q]⟩
    · exact .inr ⟨by simpa using q, by simp [q]⟩
  clear h h1 h2 hx P
  unfold ptr at *
  rcases hfree with ⟨b1, b2⟩ | ⟨b1, b2⟩
  all_goals
    rw [b2]
    clear b2
    go_enter Try.func28, Try.ntmps28
    go_wp2_with fail
    go_ret
    exact ⟨rfl, 0, rfl⟩
def pK (E : List Ent) (x : Key E) : Bool := match fnd Ent.b E x.1 with
  | some e => free e.f
  | none => false
/-- The place of the first that may be let go. -/
def ixS (E : List Ent) : Int := match E.findIdx? (fun e => free e.f) with
  | none => -1
  | some i => (i : Int)
theorem pK_hit (h : (E.map Ent.b).Nodup) {e : Ent} (he : e ∈ E) (hk : e.b ∈ E.map Ent.b) : pK E ⟨e.b, hk⟩ = free e.f := by unfold pK; rw [fnd_hit h he]
theorem index_calls (h : CIs B w cb mb fr ck T E) (gc : Nat) (hg : w.cell? ⟨gc, 0, none⟩ = some (ptr cb)) {base cap : Nat} {A : Option Addr} (hE : E ≠ []) (hr : w.ownsRow base 3 1 (.slice A E.length cap) E.length ((E.map Ent.b).map (Value.int .i64))) :
    Calls Try.prog 27 #[.slice A E.length cap, .func (.func 28) #[] #[.pointer (some ⟨gc, 0, none⟩)]] w fun e w' => e = .returned (.int .i64 (ixS E)) ∧ ∃ q, w' = w.drewN q := by
  obtain ⟨e0, he0⟩ := List.exists_mem_of_ne_nil E hE
  have : Inhabited (Key E) := ⟨⟨e0.b, List.mem_map_of_mem he0⟩⟩
  have hgl : gc < w.heap.size := World.block_lt_of_cell? w _ hg
  obtain ⟨zs, hzs⟩ : ∃ zs : List (Key E), zs = (E.map Ent.b).attachWith (· ∈ E.map Ent.b) (fun _ h => h) := ⟨_, rfl⟩
  have hval : zs.map Subtype.val = E.map Ent.b := by rw [hzs]; exact List.attachWith_map_subtype_val _
  have hlen : zs.length = E.length := by rw [hzs]; simp
  have hat : ∀ (j : Nat) (e : Ent), E[j]? = some e → ∃ hk : e.b ∈ E.map Ent.b, zs[j]! = (⟨e.b, hk⟩ : Key E) := fun j e hj => by
    have hjl : j < zs.length := by rw [hlen]; exact (List.getElem?_eq_some_iff.1 hj).1
    have hv : (zs[j]!).1 = e.b := by
      have h1 : (zs.map Subtype.val)[j]? = some e.b := by rw [hval, List.getElem?_map, hj]; rfl
      rw [List.getElem?_map, List.getElem?_eq_getElem hjl] at h1
      rw [getElem!_pos zs j hjl]
      exact Option.some.inj h1
    exact ⟨List.mem_map_of_mem (List.mem_of_getElem? hj), Subtype.ext hv⟩
  have eg : ∀ args w, (callFunc 28 args).run Try.prog w = .ok (.enter 28 args) w := enters_of Try.func28 (by kernel_rfl) rfl
  have hcellj : ∀ j, j < zs.length → ∃ g, A = some ⟨g, 0, none⟩ ∧ w.cell? ⟨g, 0 + j, none⟩ = some (enK E zs[j]!) := fun j hj => by
    have hj2 : j < E.length := by rw [← hlen]; exact hj
    obtain ⟨hk, hz⟩ := hat j E[j] (List.getElem?_eq_getElem hj2)
    have hx : ((E.map Ent.b).map (Value.int .i64))[j]? = some (.int .i64 E[j].b) := by rw [List.getElem?_map, List.getElem?_map, List.getElem?_eq_getElem hj2]; rfl
    obtain ⟨g, cap', e1, hc⟩ := own_cell hr hx
    simp only [Value.slice.injEq] at e1
    exact ⟨g, e1.1, by rw [Nat.zero_add, hz]; exact hc⟩
  have hpos : 0 < zs.length := by rw [hlen]; exact List.length_pos_of_mem he0
  obtain ⟨b, rfl, _⟩ := hcellj 0 hpos
  have hc : ∀ j, j < zs.length → w.cell? ⟨b, 0 + j, none⟩ = some (enK E zs[j]!) := fun j hj => by
    obtain ⟨g, e1, h2⟩ := hcellj j hj
    have : g = b := by simpa using e1.symm
    rw [← this]; exact h2
  have hpred : PredAt Try.prog 28 #[.pointer (some ⟨gc, 0, none⟩)] (enK E) (pK E) w := fun W x hb => by
    obtain ⟨x, hx⟩ := x
    obtain ⟨ex, hex, rfl⟩ := List.mem_map.1 hx
    have := load1_calls (h.below hb) gc ((World.cell?_of_block (hb.block gc hgl)).trans hg) hex
    rw [pK_hit h.hel.nb hex]
    exact this
  have hlen2 := h.hel.len
  have := AnyE.slices_IndexFunc LayI.idxFn (enK E) (pK E) 28 #[.pointer (some ⟨gc, 0, none⟩)] eg b 0 E.length cap zs w hpred (by omega) (by omega) hc
  have hix : Go.Lib.idxBy (fun _ y => pK E y) (zs.take E.length) default = ixS E := by
    rw [List.take_of_length_le (by omega)]
    have hp : ∀ (j : Nat) (e : Ent), E[j]? = some e → pK E zs[j]! = free e.f := fun j e hj => by
      obtain ⟨hk, hz⟩ := hat j e hj
      rw [hz, pK_hit h.hel.nb (List.mem_of_getElem? hj)]
    unfold ixS Go.Lib.idxBy
    cases hf : E.findIdx? (fun e => free e.f) with
    | none =>
      rw [List.findIdx?_eq_none_iff] at hf
      refine Go.Lib.idxByFrom_miss _ _ zs 0 fun j hj => ?_
      rw [hlen] at hj
      show pK E zs[j]! = false
      rw [hp j E[j] (List.getElem?_eq_getElem hj)]
      exact hf _ (List.getElem_mem hj)
    | some i =>
      rw [List.findIdx?_eq_some_iff_getElem] at hf
      obtain ⟨hi, h1, h2⟩ := hf
      have := Go.Lib.idxByFrom_hit (fun _ y => pK E y) default zs i 0 (by omega) (by show pK E zs[i]! = true; rw [hp i E[i] (List.getElem?_eq_getElem hi)]; exact h1) (fun j hj => by
        show pK E zs[j]! = false
        rw [hp j E[j] (List.getElem?_eq_getElem (by omega))]
        simpa using h2 j hj)
      rw [this, Nat.zero_add]
  rw [hix] at this
  exact this
theorem below_drewN {B : Nat} {W w : World} (h : Below B W w) (q : Nat) : Below B W (w.drewN q) := ⟨h.os, h.tape, h.output, h.size, h.block⟩
theorem right_rng {k : Int} {d : ByteArray} (h : rightS k d = true) : 0 ≤ k ∧ k < 1024 := by
  unfold rightS at h
  simp at h
  exact h.1
theorem fnd_none_f {E : List Ent} {k : Int} (h : fnd F.b (E.map Ent.f) k = none) : ∀ e ∈ E, e.b ≠ k := fun e he q => by
  have := fnd_none h e.f (List.mem_map_of_mem he)
  exact this q
theorem find_free (E : List Ent) : (ixS E = -1 ∧ (E.map Ent.f).find? free = none) ∨ ∃ (i : Nat) (v : Ent), ixS E = (i : Int) ∧ E[i]? = some v ∧ (E.map Ent.f).find? free = some v.f := by
  unfold ixS
  rw [List.find?_map]
  cases hf : E.findIdx? (fun e => free e.f) with
  | none =>
    refine .inl ⟨rfl, ?_⟩
    rw [List.findIdx?_eq_none_iff] at hf
    have : E.find? (free ∘ Ent.f) = none := List.find?_eq_none.2 fun e he => by simpa using hf e he
    rw [this]; rfl
  | some i =>
    rw [List.findIdx?_eq_some_iff_getElem] at hf
    obtain ⟨hi, h1, h2⟩ := hf
    refine .inr ⟨i, E[i], rfl, List.getElem?_eq_getElem hi, ?_⟩
    have : E.find? (free ∘ Ent.f) = some E[i] := List.find?_eq_some_iff_getElem.2 ⟨h1, i, hi, rfl, fun j hj => by simpa using h2 j hj⟩
    rw [this]; rfl
def LPost (B cb mb : Nat) (fr : Int) (T : Nat) (E : List Ent) (w : World) (r : List F × Int × Int) (e : Ending) (w' : World) : Prop := e = .returned (.tuple #[.int .i64 r.2.1, .int .i64 r.2.2]) ∧ CPost B cb mb fr (T + 1) E w r.1 w'
set_option maxHeartbeats 3200000 in
set_option maxRecDepth 100000 in
theorem load_wrong (h : CIs B w cb mb fr ck T E) (k : Int) (d : ByteArray) (hr : rightS k d = false) : Calls Try.prog 10 #[ptr cb, .int .i64 k, .string d] w (LPost B cb mb fr T E w (E.map Ent.f, 0, 1)) := by
  have hpp := Try.underlying23
  have HP := Aside0.mk (h.stay (below_alloc (Below.refl w.heap.size w) (.cells #[ptr cb] 23)))
  have hR := Aside0.mk (right_calls k d)
  rw [hr] at hR
  clear h hr
  unfold ptr at *
  go_enter Try.func10, Try.ntmps10
  go_wp2_with fail
  refine (hR.out _).mono ?_
  rintro x w1 ⟨rfl, rfl⟩
  go_wp2_with fail
  go_ret2
  exact ⟨rfl, HP.out⟩
set_option maxHeartbeats 3200000 in
set_option maxRecDepth 100000 in
theorem load_held (h : CIs B w cb mb fr ck T E) (k : Int) (d : ByteArray) (hr : rightS k d = true) {e : Ent} (he : e ∈ E) (hk : e.b = k) : Calls Try.prog 10 #[ptr cb, .int .i64 k, .string d] w (LPost B cb mb fr T E w (E.map Ent.f, 0, 7)) := by
  have hpp := Try.underlying23
  have hpf := Try.underlying59
  have hb := below_alloc (Below.refl w.heap.size w) (.cells #[ptr cb] 23)
  have HP := Aside0.mk (h.stay hb)
  have c0 := (blk_cell (blk_new w (.cells #[ptr cb] 23)) 0).trans (Eq.refl (some (ptr cb)))
  have hR := Aside0.mk (right_calls k d)
  have hA := Aside0.mk (at_calls (h.below hb) k)
  rw [hr] at hR
  rw [← hk, look_hit (h.below hb) he, hk] at hA
  clear h hr hb hk he
  unfold ptr at *
  go_enter Try.func10, Try.ntmps10
  go_wp2_with fail
  refine (hR.out _).mono ?_
  rintro x w1 ⟨rfl, rfl⟩
  go_wp2_with fail
  refine hA.out.mono ?_
  rintro x w1 ⟨rfl, rfl⟩
  go_wp2_with fail
  go_ret2
  exact ⟨rfl, HP.out⟩
end
end Go.Proofs.Ytikefafpkclgeaa.Cache
