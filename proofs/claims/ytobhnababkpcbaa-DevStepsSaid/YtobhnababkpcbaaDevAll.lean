/- A crash that picks all, or none: the plain law; and two devices side by side. -/
import Derived.Test.YtobhnababkpcbaaDevLasts
set_option linter.unusedVariables false
set_option linter.unusedSimpArgs false
namespace Go.Proofs.Ytobhnababkpcbaa.DevS
open Go.RowKit Go.Proofs.YtobhnababkpcbaaW.PrintWords Go.Proofs.Ytobhnababkpcbaa.Given

theorem flushF_append : ∀ (q : List (Int × ByteArray)) (f : F) (p : Int × ByteArray), flushF f (q ++ [p]) = layW (flushF f q) p 1024
  | [], _, _ => rfl
  | x :: q, f, p => by rw [List.cons_append, flushF, flushF_append q]; rfl
theorem crash_all (picks : List Bool) (t : Nat) : ∀ (q : List (Int × ByteArray)) (i : Nat) (first : Bool) (f : F), (∀ j : Nat, i ≤ j → j < i + q.length → picks[j]? = some true) → crashF picks t i first f q = flushF f q
  | [], _, _, _, _ => by rw [crashF]; rfl
  | p :: q, i, first, f, h => by
    rw [crashF, if_pos (h i (Nat.le_refl _) (by simp)), crash_all picks t q (i + 1) first _ (fun j h1 h2 => h j (by omega) (by simp only [List.length_cons]; omega))]
    rfl
theorem crash_none (picks : List Bool) : ∀ (q : List (Int × ByteArray)) (i : Nat) (first : Bool) (f : F), (∀ j : Nat, ¬ picks[j]? = some true) → crashF picks 0 i first f q = f
  | [], _, _, _, _ => by rw [crashF]
  | p :: q, i, first, f, h => by
    rw [crashF, if_neg (h i)]
    have e : layW f p 0 = f := by unfold layW; rw [Nat.zero_min]; rfl
    cases first with
    | true => rw [if_pos rfl, e]; exact crash_none picks q _ _ _ h
    | false => rw [if_neg (by decide)]; exact crash_none picks q _ _ _ h
/-- Two devices: one has all writes, the other has them if they are kept. -/
def InvA (keep : Bool) (d x : D) : Prop := d.n = 6 ∧ d.la = (fun _ => none) ∧ d.se = flushF d.la d.q ∧ x = (if keep = true then d else dNew 6)
theorem invA_start (keep : Bool) : InvA keep (dNew 6) (dNew 6) := ⟨rfl, rfl, rfl, by cases keep <;> rfl⟩
theorem write_cases (d : D) (a : Int) (s : ByteArray) : ((dWrite d a s).2 = 0 ∧ (dWrite d a s).1 = { d with se := layF d.se a s (s.size / 128), q := d.q ++ [(a, s)] } ∧ placeOk d.n a s) ∨ ((dWrite d a s).2 ≠ 0 ∧ (dWrite d a s).1 = d) := by
  unfold dWrite
  by_cases hf : formOk s
  · by_cases hp : placeOk d.n a s
    · rw [if_neg (fun e => e hf), if_neg (fun e => e hp)]
      exact .inl ⟨rfl, rfl, hp⟩
    · rw [if_neg (fun e => e hf), if_pos hp]
      exact .inr ⟨by show (6 : Int) ≠ 0; decide, rfl⟩
  · rw [if_pos hf]
    exact .inr ⟨by show (4 : Int) ≠ 0; decide, rfl⟩
theorem invA_write {keep : Bool} {d x : D} (h : InvA keep d x) (a : Int) (s : ByteArray) (hok : (dWrite d a s).2 = 0) : InvA keep (dWrite d a s).1 (if keep = true then (dWrite x a s).1 else x) ∧ (dWrite d a s).1.q.length = d.q.length + 1 := by
  rcases write_cases d a s with ⟨_, e, hp⟩ | ⟨e, _⟩
  · obtain ⟨h1, h2, h3, h4⟩ := h
    have hz : min 1024 (s.size / 128) = s.size / 128 := by have := hp.2.1; omega
    refine ⟨⟨by rw [e]; exact h1, by rw [e]; exact h2, ?_, ?_⟩, by rw [e]; simp⟩
    · rw [e]
      show layF d.se a s (s.size / 128) = flushF d.la (d.q ++ [(a, s)])
      rw [flushF_append, ← h3]
      unfold layW
      show _ = layF d.se a s (min 1024 (s.size / 128))
      rw [hz]
    · rw [h4]
      cases keep <;> rfl
  · exact absurd hok e
/-- The end. -/
theorem invA_end {keep : Bool} {d x : D} (h : InvA keep d x) : (dCrash d (List.replicate d.q.length keep) 0).2 = 0 ∧ (dCrash d (List.replicate d.q.length keep) 0).1.q = [] ∧
    ∀ i : Int, (dRead (dCrash d (List.replicate d.q.length keep) 0).1 i).1 = (dRead (dFlush x) i).1 ∧ (dRead (dCrash d (List.replicate d.q.length keep) 0).1 i).1 = (dLasts (dCrash d (List.replicate d.q.length keep) 0).1 i).1 := by
  obtain ⟨h1, h2, h3, h4⟩ := h
  have hf : crashF (List.replicate d.q.length keep) 0 0 true d.la d.q = if keep = true then d.se else (fun _ => none) := by
    cases keep with
    | true =>
      rw [if_pos rfl, crash_all _ _ _ _ _ _ (fun j _ hj => by rw [List.getElem?_replicate, if_pos (by omega)]), h3]
    | false =>
      rw [if_neg (by decide), crash_none _ _ _ _ _ (fun j hj => by rw [List.getElem?_replicate] at hj; split at hj <;> simp at hj), h2]
  have e : dCrash d (List.replicate d.q.length keep) 0 = (⟨d.n, if keep = true then d.se else (fun _ => none), if keep = true then d.se else (fun _ => none), []⟩, 0) := by
    unfold dCrash
    rw [if_neg (by decide), if_neg (by decide), show (0 : Int).toNat = 0 from rfl, hf]
  rw [e]
  refine ⟨rfl, rfl, fun i => ⟨?_, ?_⟩⟩
  · have hn : (dFlush x).n = d.n := by rw [h4]; cases keep <;> simp [dFlush, dNew, h1]
    have hs : (dFlush x).se = if keep = true then d.se else (fun _ => none) := by rw [h4]; cases keep <;> rfl
    unfold dRead
    by_cases hi : inD d i
    · have hi2 : inD (dFlush x) i := by unfold inD at hi ⊢; rw [hn]; exact hi
      have hi3 : inD ⟨d.n, if keep = true then d.se else (fun _ => none), if keep = true then d.se else (fun _ => none), []⟩ i := hi
      rw [if_pos hi2, if_pos hi3, hs]
    · have hi2 : ¬ inD (dFlush x) i := by unfold inD at hi ⊢; rw [hn]; exact hi
      have hi3 : ¬ inD ⟨d.n, if keep = true then d.se else (fun _ => none), if keep = true then d.se else (fun _ => none), []⟩ i := hi
      rw [if_neg hi2, if_neg hi3]
  · rfl
end Go.Proofs.Ytobhnababkpcbaa.DevS
namespace Go.Proofs.Ytobhnababkpcbaa.Dev
open Go.RowKit Go.Proofs.YtobhnababkpcbaaW.PrintWords Go.Proofs.YtobhnababkpcbaaW.PrintLast Go.Proofs.YtobhnababkpcbaaW.PrintMore Go.Proofs.Ytobhnababkpcbaa.Maps Go.Proofs.Ytobhnababkpcbaa.DevS Go.Proofs.Ytobhnababkpcbaa.Given Go.Proofs.Ytobhnababkpcbaa.Open
section
variable {B db xb : Nat} {w w' : World} {d x d' : D} {e : Value} {en : Ending}
def Two (B : Nat) (w : World) (db xb : Nat) (d x : D) : Prop := ∃ (l1 s1 : Nat) (v1 : Value) (l2 s2 : Nat) (v2 : Value), DevIs B w db l1 s1 v1 d ∧ DevIs B w xb l2 s2 v2 x ∧ ∀ k, fp db l1 s1 v1 k → ¬ fp xb l2 s2 v2 k
/-- A row of Booleans of the call's own. -/
def Row (B : Nat) (w : World) (v : Value) (keep : Bool) (m : Nat) : Prop := w.ownsRow B 4 1 v (List.replicate m (Value.bool keep)).length (List.replicate m (Value.bool keep))
theorem Row.apart {v : Value} {keep : Bool} {m lb sb : Nat} {v1 : Value} (h : Row B w v keep m) (hd : DevIs B w db lb sb v1 d) {k : Nat} (hk : fp db lb sb v1 k) : v.ownBlock ≠ some k := by
  intro e
  rcases h.2 with ⟨rfl, _⟩ | ⟨g, cap, cur, rfl, _, hg, _⟩
  · simp [Value.ownBlock] at e
  · have e2 : g = k := by simpa [Value.ownBlock] using e
    subst e2
    rcases hk with rfl | rfl | rfl | hk
    · have := hd.dev; rw [hg] at this; simp at this
    · obtain ⟨es, c, l, h1, _⟩ := hd.la; rw [hg] at h1; simp at h1
    · obtain ⟨es, c, l, h1, _⟩ := hd.se; rw [hg] at h1; simp at h1
    · rcases hd.row.2 with ⟨rfl, _⟩ | ⟨g', cap', cur', rfl, _, hg', _⟩
      · simp [Value.ownBlock] at hk
      · have e3 : g' = g := by simpa [Value.ownBlock] using hk
        subst e3
        rw [hg] at hg'
        simp at hg'
theorem DevIs.step_apart {lb sb g : Nat} {v1 : Value} {cs : Array Value} (hd : DevIs B w db lb sb v1 d) (hg : w.heap[g]? = some (.cells cs 30 (0, 0))) (hk : fp db lb sb v1 g) : False := by
  rcases hk with rfl | rfl | rfl | hk
  · have := hd.dev; rw [hg] at this; simp at this
  · obtain ⟨es, c, l, h1, _⟩ := hd.la; rw [hg] at h1; simp at h1
  · obtain ⟨es, c, l, h1, _⟩ := hd.se; rw [hg] at h1; simp at h1
  · rcases hd.row.2 with ⟨rfl, _⟩ | ⟨g', cap', cur', rfl, _, hg', _⟩
    · simp [Value.ownBlock] at hk
    · have e3 : g' = g := by simpa [Value.ownBlock] using hk
      subst e3
      rw [hg] at hg'
      simp at hg'
theorem Row.fr {v : Value} {keep : Bool} {m : Nat} {f : Nat → Prop} (h : Row B w v keep m) (hf : Fr w w' f) (hn : ∀ k, f k → v.ownBlock ≠ some k) : Row B w' v keep m := by
  refine ⟨h.1, ?_⟩
  rcases h.2 with hh | ⟨g, cap, cur, rfl, hb, hg, rest⟩
  · exact .inl hh
  · exact .inr ⟨g, cap, cur, rfl, hb, (hf.block g (Array.getElem?_eq_some_iff.1 hg).1 (fun hk => hn g hk rfl)).trans hg, rest⟩
theorem Row.below {v : Value} {keep : Bool} {m : Nat} (h : Row B w v keep m) (hb : Below w.heap.size w w') : Row B w' v keep m := pw_own_below h hb
theorem Two.below (h : Two B w db xb d x) (hb : Below w.heap.size w w') : Two B w' db xb d x := by
  obtain ⟨l1, s1, v1, l2, s2, v2, h1, h2, h3⟩ := h
  exact ⟨l1, s1, v1, l2, s2, v2, h1.below hb, h2.below hb, h3⟩
/-- All that stands besides two devices: the world is W's but for new blocks; a row of Booleans. -/
structure St (B : Nat) (W w : World) (db xb : Nat) (d x : D) (v : Value) (keep : Bool) (m : Nat) : Prop where
  two : Two B w db xb d x
  row : Row B w v keep m
  bel : Below B W w
variable {W : World} {v : Value} {keep : Bool} {m : Nat}
theorem St.below (h : St B W w db xb d x v keep m) (hb : Below w.heap.size w w') (hB : B ≤ w.heap.size) : St B W w' db xb d x v keep m := ⟨h.two.below hb, h.row.below hb, h.bel.trans (hb.mono hB)⟩
theorem St.left (h : St B W w db xb d x v keep m) (hB : B ≤ w.heap.size) {R : Ending → World → Prop} {fn : Nat} {args : Array Value} (hc : ∀ l1 s1 v1, DevIs B w db l1 s1 v1 d → Calls Try.prog fn args w (WritePost B db l1 s1 v1 w d' e))
    (hR : ∀ w', St B W w' db xb d' x v keep m → w.heap.size ≤ w'.heap.size → (∀ (g : Nat) (cs : Array Value), w.heap[g]? = some (Obj.cells cs 30 (0, 0)) → w'.heap[g]? = some (Obj.cells cs 30 (0, 0))) → R (.returned e) w') : Calls Try.prog fn args w R := by
  obtain ⟨l1, s1, v1, l2, s2, v2, h1, h2, h3⟩ := h.two
  refine (hc l1 s1 v1 h1).mono ?_
  rintro en w' ⟨sb', v', rfl, g1, g2, g3⟩
  refine hR w' ⟨⟨l1, sb', v', l2, s2, v2, g1, h2.fr g2 (fun k hk hk2 => h3 k hk2 hk), fun k hk hk2 => ?_⟩, h.row.fr g2 (fun k hk => h.row.apart h1 hk), Fr.below h.bel g2 (fun k hk => h1.fp_ge hk) hB⟩ g2.size (fun g cs hg => (g2.block g (blk_lt hg) (fun hk => h1.step_apart hg hk)).trans hg)
  rcases g3 k hk with hh | hh
  · exact h3 k hh hk2
  · have := h2.fp_lt hk2; omega
theorem St.right (h : St B W w db xb d x v keep m) (hB : B ≤ w.heap.size) {R : Ending → World → Prop} {fn : Nat} {args : Array Value} (hc : ∀ l1 s1 v1, DevIs B w xb l1 s1 v1 x → Calls Try.prog fn args w (WritePost B xb l1 s1 v1 w d' e))
    (hR : ∀ w', St B W w' db xb d d' v keep m → w.heap.size ≤ w'.heap.size → (∀ (g : Nat) (cs : Array Value), w.heap[g]? = some (Obj.cells cs 30 (0, 0)) → w'.heap[g]? = some (Obj.cells cs 30 (0, 0))) → R (.returned e) w') : Calls Try.prog fn args w R := by
  obtain ⟨l1, s1, v1, l2, s2, v2, h1, h2, h3⟩ := h.two
  refine (hc l2 s2 v2 h2).mono ?_
  rintro en w' ⟨sb', v', rfl, g1, g2, g3⟩
  refine hR w' ⟨⟨l1, s1, v1, l2, sb', v', h1.fr g2 (fun k hk hk2 => h3 k hk hk2), g1, fun k hk hk2 => ?_⟩, h.row.fr g2 (fun k hk => h.row.apart h2 hk), Fr.below h.bel g2 (fun k hk => h2.fp_ge hk) hB⟩ g2.size (fun g cs hg => (g2.block g (blk_lt hg) (fun hk => h2.step_apart hg hk)).trans hg)
  rcases g3 k hk2 with hh | hh
  · exact h3 k hk hh
  · have := h1.fp_lt hk; omega
theorem St.append {v' : Value} (h : St B W w db xb d x v keep m) (hg : w.grownBy w' v.ownBlock) (hr : w'.ownsRow B 4 1 v' (List.replicate m (Value.bool keep) ++ [Value.bool keep]).length (List.replicate m (Value.bool keep) ++ [Value.bool keep])) (hb : Below B W w') :
    St B W w' db xb d x v' keep (m + 1) ∧ ∀ (g : Nat) (cs : Array Value), w.heap[g]? = some (Obj.cells cs 30 (0, 0)) → w'.heap[g]? = some (Obj.cells cs 30 (0, 0)) := by
  have hf : Fr w w' (fun k => v.ownBlock = some k) := ⟨hg.os, hg.tape, hg.output, hg.size, fun k hk hn => hg.block k hk (fun e => hn e.symm)⟩
  obtain ⟨l1, s1, v1, l2, s2, v2, h1, h2, h3⟩ := h.two
  refine ⟨⟨⟨l1, s1, v1, l2, s2, v2, h1.fr hf (fun k hk => h.row.apart h1 hk), h2.fr hf (fun k hk => h.row.apart h2 hk), h3⟩, ?_, hb⟩, fun g cs hgc => (hf.block g (blk_lt hgc) (fun e => ?_)).trans hgc⟩
  · have e : List.replicate m (Value.bool keep) ++ [Value.bool keep] = List.replicate (m + 1) (Value.bool keep) := by rw [List.replicate_succ']
    unfold Row
    rw [← e]
    exact hr
  · rcases h.row.2 with ⟨rfl, _⟩ | ⟨g', cap', cur', rfl, _, hg', _⟩
    · simp [Value.ownBlock] at e
    · have e3 : g' = g := by simpa [Value.ownBlock] using e
      subst e3
      rw [hgc] at hg'
      simp at hg'
/-- The row as picks. -/
theorem Row.picks {lb sb : Nat} {v1 : Value} (h : Row B w v keep m) (hd : DevIs B w db lb sb v1 d) : ∃ A c, v = .slice A (List.replicate m keep).length c ∧ Picks w A (List.replicate m keep) ∧ ∀ ad, A = some ad → List.replicate m keep ≠ [] → ¬ fp db lb sb v1 ad.block ∧ ad.block < w.heap.size := by
  have hl : (List.replicate m (Value.bool keep)).length = (List.replicate m keep).length := by simp
  have ha := fun k (hk : fp db lb sb v1 k) => h.apart hd hk
  have hlt := own_lt h
  rcases h.2 with ⟨rfl, h0⟩ | ⟨g, cap, cur, rfl, _, hg, hrest⟩
  · have hm : m = 0 := by simpa using h0
    subst hm
    exact ⟨none, 0, rfl, Picks.nil _ _, fun ad e => by cases e⟩
  · refine ⟨some ⟨g, 0, none⟩, cap, by rw [← hl], fun i hi => ⟨⟨g, 0, none⟩, rfl, ?_⟩, fun ad e _ => ?_⟩
    · have hc := World.ownsRow.cellAt h i (by rw [hl]; omega)
      have hadd : (⟨g, 0, none⟩ : Addr).add i = ⟨g, i, none⟩ := by unfold Addr.add; split <;> simp_all
      have hi2 : i < m := by simpa using hi
      rw [hadd, hc]
      simp [List.getElem?_replicate, hi2]
    · obtain rfl := Option.some.inj e
      exact ⟨fun hk => ha g hk rfl, hlt g rfl⟩
end
end Go.Proofs.Ytobhnababkpcbaa.Dev
