/- The walk of the law TableSteps. -/
import Derived.Test.YtjjbikpjkbdabaaTabK
import Derived.Deep.RegionHeld3
set_option linter.unusedVariables false
set_option linter.unusedSimpArgs false
namespace Go.Proofs.Ytjjbikpjkbdabaa.TabS
open Go.Proofs.Ytjjbikpjkbdabaa.Maps
structure Okm (m : T) : Prop where
  len : m.length ≤ 256
  keys : ∀ x ∈ m.map (·.1), 0 ≤ x ∧ x ≤ 1099511627776
theorem Okm.wf {m : T} (h : Okm m) : ∀ x ∈ m.map (·.1), (Go.Lit.int .i64 x).wf = true := fun x hx => by
  obtain ⟨h1, h2⟩ := h.keys x hx
  simp [Go.Lit.wf, Go.IntKind.min, Go.IntKind.max, Go.IntKind.signed, Go.IntKind.bits]
  omega
theorem wrong_says {c r : Int} (h : wrong c r = false) : 0 ≤ c ∧ c ≤ 1099511627776 := by
  unfold wrong at h
  split at h
  · cases h
  · split at h
    · cases h
    · omega
theorem ask_ok {m : T} {c r : Int} (h : (tAsk m c r).2.2 = 0) : wrong c r = false := by
  unfold tAsk at h
  by_cases hw : wrong c r = true
  · rw [if_pos hw] at h; cases h
  · simpa using hw
theorem mem_put {m : T} {c : Int} {k : K} {x : Int} (h : x ∈ (mput m c k).map (·.1)) : x = c ∨ x ∈ m.map (·.1) := by
  rw [mem_keys, mget_mput] at h
  by_cases e : c = x
  · exact .inl e.symm
  · rw [if_neg e, ← mem_keys] at h
    exact .inr h
theorem len_put {m : T} {c : Int} {k : K} (h : m.length ≤ 256) (hf : ¬ (mget m c = none ∧ m.length = 256)) : (mput m c k).length ≤ 256 := by
  rw [length_mput]
  cases e : mget m c with
  | none =>
    have : m.length ≠ 256 := fun q => hf ⟨e, q⟩
    rw [if_neg (by simp)]
    omega
  | some v => rw [if_pos (by simp)]; exact h
theorem ask_both {m L : T} (h : Rel m L) (c r : Int) : tAsk L c r = tAsk m c r := by unfold tAsk; rw [h.get]
theorem Rel.okL {m L : T} (h : Rel m L) (o : Okm m) : L.length ≤ 256 := by rw [h.len]; exact o.len
end Go.Proofs.Ytjjbikpjkbdabaa.TabS
namespace Go.Proofs.Ytjjbikpjkbdabaa.Core
open Go.RowKit Go.Proofs.YtjjbikpjkbdabaaW.PrintWords Go.Proofs.YtjjbikpjkbdabaaW.PrintLast Go.Proofs.YtjjbikpjkbdabaaW.PrintMore Go.Proofs.Ytjjbikpjkbdabaa.Maps Go.Proofs.Ytjjbikpjkbdabaa.TabS Go.Proofs.Ytjjbikpjkbdabaa.Tab Go.Proofs.Ytjjbikpjkbdabaa.RTab Go.Proofs.Ytjjbikpjkbdabaa.TabK
theorem begin_both {m L : T} (h : Rel m L) (o : Okm m) (c r : Int) : (tBegin m c r).2 = (bsB L c r).2 ∧ Rel (tBegin m c r).1 (bsB L c r).1 ∧ Okm (tBegin m c r).1 := by
  unfold tBegin bsB
  rw [ask_both h]
  by_cases h1 : (tAsk m c r).2.2 = 0
  · rw [if_pos h1, if_pos h1]
    by_cases h2 : (tAsk m c r).1 = 1
    · rw [if_pos h2, if_pos h2, h.get, h.len]
      by_cases h3 : mget m c = none ∧ m.length = 256
      · rw [if_pos h3, if_pos ⟨h3.1, by omega⟩]
        exact ⟨rfl, h, o⟩
      · have := o.len
        rw [if_neg h3, if_neg (fun q => h3 ⟨q.1, by omega⟩)]
        refine ⟨rfl, h.begin c _, ⟨len_put o.len h3, fun x hx => ?_⟩⟩
        rcases mem_put hx with rfl | hx
        · exact wrong_says (ask_ok h1)
        · exact o.keys x hx
    · rw [if_neg h2, if_neg h2]
      exact ⟨rfl, h, o⟩
  · rw [if_neg h1, if_neg h1]
    exact ⟨rfl, h, o⟩
theorem done_both {m L : T} (h : Rel m L) (o : Okm m) (c r : Int) (x : Res) : (tDone m c r x).2 = (tDone L c r x).2 ∧ Rel (tDone m c r x).1 (tDone L c r x).1 ∧ Okm (tDone m c r x).1 := by
  unfold tDone
  by_cases hw : wrong c r = true
  · rw [if_pos hw, if_pos hw]; exact ⟨rfl, h, o⟩
  rw [if_neg hw, if_neg hw, h.get]
  cases hk : mget m c with
  | none => exact ⟨rfl, h, o⟩
  | some k =>
    dsimp only
    by_cases h1 : k.req = r
    · rw [if_pos h1, if_pos h1]
      by_cases h2 : k.done = true
      · rw [if_pos h2, if_pos h2]; exact ⟨rfl, h, o⟩
      · rw [if_neg h2, if_neg h2]
        refine ⟨rfl, h.put hk, ⟨?_, fun y hy => ?_⟩⟩
        · rw [length_mput, hk, if_pos (by simp)]; exact o.len
        · rcases mem_put hy with rfl | hy
          · exact wrong_says (by simpa using hw)
          · exact o.keys y hy
    · rw [if_neg h1, if_neg h1]; exact ⟨rfl, h, o⟩
/-- What the law's own loop finds of a client. -/
def fstep (c : Int) (o : Int × Bool) (x : Kn) : Int × Bool := if x.c = c then (x.k.req, true) else o
theorem fold_none (c : Int) : ∀ (l : List Kn) (o : Int × Bool), (∀ x ∈ l, x.c ≠ c) → l.foldl (fstep c) o = o
  | [], o, _ => rfl
  | x :: l, o, h => by
    rw [List.foldl_cons, fstep, if_neg (h x (by simp))]
    exact fold_none c l o fun y hy => h y (by simp [hy])
theorem fold_last {l : List Kn} {c : Int} (hn : ((tOf l).map (·.1)).Nodup) : l.foldl (fstep c) (0, false) = last (tOf l) c := by
  induction l with
  | nil => rfl
  | cons x l ih =>
    have e : (tOf (x :: l)).map (·.1) = x.c :: (tOf l).map (·.1) := rfl
    rw [e, List.nodup_cons] at hn
    rw [List.foldl_cons]
    unfold fstep
    by_cases h : x.c = c
    · rw [if_pos h]
      have hl : last (tOf (x :: l)) c = (x.k.req, true) := by
        unfold last
        show (match mget ((x.c, x.k) :: tOf l) c with | none => _ | some k => _) = _
        rw [mget, if_pos h]
      rw [hl]
      refine fold_none c l _ fun y hy he => hn.1 ?_
      exact List.mem_map.2 ⟨(y.c, y.k), List.mem_map.2 ⟨y, hy, rfl⟩, by rw [h]; exact he⟩
    · rw [if_neg h]
      have e2 : mget (tOf (x :: l)) c = mget (tOf l) c := by
        show mget ((x.c, x.k) :: tOf l) c = _
        rw [mget, if_neg h]
      have hl : last (tOf (x :: l)) c = last (tOf l) c := by
        unfold last
        rw [e2]
      rw [hl]
      exact ih hn.2
theorem last_both {m L : T} (h : Rel m L) (c : Int) : last L c = last m c := by unfold last; rw [h.get]
/-- Both tables, side by side. -/
structure ST (W w : World) (ta ma : Nat) (bs : List (Int × Nat)) (m : T) (rb : Nat) (v : Value) (l : List Kn) : Prop where
  t : TabIs W.heap.size w ta ma bs m
  r : RIs W.heap.size w rb v l
  b : Below W.heap.size W w
section
variable {W w w' : World} {ta ma : Nat} {bs bs' : List (Int × Nat)} {m m' : T} {rb : Nat} {v v' : Value} {l l' : List Kn}
theorem ST.below (h : ST W w ta ma bs m rb v l) (hb : Below w.heap.size w w') : ST W w' ta ma bs m rb v l := ⟨h.t.below hb, h.r.below hb, h.b.trans (hb.mono h.b.size)⟩
theorem ST.left (h : ST W w ta ma bs m rb v l) (ht : TabIs W.heap.size w' ta ma bs' m') (hf : Fr w w' (fp ta ma bs)) : ST W w' ta ma bs' m' rb v l := by
  have hrow : ∀ k, v.ownBlock = some k → ¬ fp ta ma bs k := fun k hk => by
    obtain ⟨cells, hc⟩ := own_typed h.r.row.1 k hk
    exact h.t.not_step hc (by decide) (by decide)
  refine ⟨ht, ⟨two_keep h.t hf h.r.blk (by decide) (by decide), ⟨own_move h.r.row.1 (fun k hk => hf.block k (own_lt h.r.row.1 k hk) (hrow k hk)), fun x hx => two_names h.t hf (h.r.row.2 x hx)⟩, h.r.bd⟩, hf.below h.b (fun k hk => h.t.base hk) h.b.size⟩
theorem ST.typed (h : ST W w ta ma bs m rb v l) {k : Nat} (hk : fpR rb v k) : W.heap.size ≤ k ∧ ∃ cs t, w.heap[k]? = some (.cells cs t (0, 0)) ∧ t ≠ 9 ∧ t ≠ 60 ∧ t ≠ 64 ∧ t ≠ 31 ∧ t ≠ 29 := by
  rcases hk with rfl | hk
  · exact ⟨h.r.bd, _, _, h.r.blk, by decide, by decide, by decide, by decide, by decide⟩
  · obtain ⟨cells, hc⟩ := own_typed h.r.row.1 k hk
    exact ⟨own_base h.r.row.1 k hk, _, _, hc, by decide, by decide, by decide, by decide, by decide⟩
theorem ST.right (h : ST W w ta ma bs m rb v l) (hr : RIs W.heap.size w' rb v' l') (hf : Fr w w' (fpR rb v)) : ST W w' ta ma bs m rb v' l' := by
  refine ⟨h.t.fr hf (fun k hk hk2 => ?_) (fun k hk ho => ?_), hr, hf.below h.b (fun k hk => (h.typed hk).1) h.b.size⟩
  · obtain ⟨_, cs, t, h1, _, h2, h3, _⟩ := h.typed hk2
    exact h.t.not_step h1 h2 h3 hk
  · obtain ⟨hb, cs, t, h1, h2, _⟩ := h.typed hk
    rcases ho with ho | ⟨cells, ho⟩
    · omega
    · rw [h1] at ho; simp at ho; exact h2 ho.2
/-- What neither table has stays. -/
theorem ST.keepL (h : ST W w ta ma bs m rb v l) (hf : Fr w w' (fp ta ma bs)) {k : Nat} {cs : Array Value} {t : Nat} (hk : w.heap[k]? = some (.cells cs t (0, 0))) (h1 : t ≠ 60) (h2 : t ≠ 64) : w'.heap[k]? = some (.cells cs t (0, 0)) := two_keep h.t hf hk h1 h2
theorem ST.keepR (h : ST W w ta ma bs m rb v l) (hf : Fr w w' (fpR rb v)) {k : Nat} {cs : Array Value} (hk : w.heap[k]? = some (.cells cs 31 (0, 0))) : w'.heap[k]? = some (.cells cs 31 (0, 0)) := by
  refine (hf.block k (blk_lt hk) fun hf2 => ?_).trans hk
  obtain ⟨_, cs', t, h1, _, _, _, h4, _⟩ := h.typed hf2
  rw [hk] at h1
  simp at h1
  exact h4 h1.2.symm
theorem ST.namesL (h : ST W w ta ma bs m rb v l) (hf : Fr w w' (fp ta ma bs)) {A : Option Addr} {n : List ByteArray} {c : Nat} (hn : Names W.heap.size w A n c) : Names W.heap.size w' A n c := two_names h.t hf hn
theorem ST.namesR (h : ST W w ta ma bs m rb v l) (hf : Fr w w' (fpR rb v)) {A : Option Addr} {n : List ByteArray} {c : Nat} (hn : Names W.heap.size w A n c) : Names W.heap.size w' A n c :=
  hn.step (fun k hk hlt => hf.block k hlt (fun hf2 => by
    obtain ⟨hb, cs, t, h1, h2, _⟩ := h.typed hf2
    rcases hk with hk | ⟨cells, hk⟩
    · omega
    · rw [h1] at hk; simp at hk; exact h2 hk.2))
end
theorem infoI1 : (Try.prog.info? 3).map (fun i => (i.zero, i.size, i.bytes)) = some (some (.int .i64 0), 1, 8) := by kernel_rfl
theorem hm_le8 {j : Nat} (h : j ≤ 256) : (j + 1) * 8 ≤ 140737488355328 := by omega
/-- The state ahead of a step. -/
def Sta (W w : World) (ta rb : Nat) : Prop := ∃ ma bs m v l, ST W w ta ma bs m rb v l ∧ Rel m (tOf l) ∧ Okm m
def sboxed (s : Step) (A : Option Addr) (c : Nat) : Obj := .cells #[.int .i64 s.kind, .int .i64 s.client, .int .i64 s.req, .int .i64 s.r.e, .string s.r.d, .int .i64 s.r.k, .int .i64 s.r.l, .int .i64 s.r.s, .slice A s.r.n.length c] 31 (0, 0)
set_option maxHeartbeats 16000000 in
set_option maxRecDepth 100000 in
theorem tableSteps (W : World) (A : Option Addr) (c : Nat) (l : List Step) (hl : l.length ≤ c) (hll : l.length ≤ 140737488351232) (hC : Kd.C stepK W A l.length l) (hg : ∀ s ∈ l, goodStep s) :
    Calls Try.prog 5 #[.slice A l.length c] W fun e W' => e = .returned (.bool true) ∧ Below W.heap.size W W' := by
  have hut := Try.underlying23
  have hus := Try.underlying31
  have hur := Try.underlying29
  have hup := Try.underlying44
  have hurt := Try.underlying47
  have huk := Try.underlying54
  have HC := Aside0.mk hC
  have HG := Aside0.mk hg
  clear hC hg
  go_enter Try.func5, Try.ntmps5
  go_wp2_with fail
  refine (new_calls W.heap.size W (Nat.le_refl _)).mono ?_
  rintro e w1 ⟨ta, ma, rfl, hT, hb, h1, h2⟩
  have hb2 := below_alloc (Below.refl w1.heap.size w1) (.cells #[.slice none 0 0] 47)
  have HT : Aside0 (Sta W (w1.alloc (.cells #[.slice none 0 0] 47)) ta w1.heap.size) := ⟨ma, [], [], _, [], ⟨hT.below hb2, ⟨heap_alloc_new w1 _, RowK.nil _ _ _, hb.size⟩, hb.trans (hb2.mono hb.size)⟩, Rel.nil, ⟨by simp, by simp⟩⟩
  clear hT hb h1 h2 hb2
  unfold Tab.ptr
  go_upto_region 5 with fail
  generalize w1.alloc (.cells #[.slice none 0 0] 47) = w2 at HT ⊢
  generalize w1.heap.size = rb at HT ⊢
  go_wp2_with fail
  go_loopw [27] (fun v27 wr => ∃ i : Nat, i ≤ l.length ∧ v27 = .int .i64 (i : Int) ∧ Aside0 (Sta W wr ta rb)) (fun x _ => l.length - (intOf x).toNat)
  case atStart => exact ⟨0, by omega, rfl, HT⟩
  case round =>
    obtain ⟨i, hi, rfl, H⟩ := hrel
    clear HT
    by_cases hlt : i < l.length
    · obtain ⟨ad, A', c', rfl, hcell, hnm⟩ := step_at HC.out HG.out i hlt
      have hBW : Below W.heap.size W wr := by obtain ⟨_, _, _, _, _, h, _⟩ := H.out; exact h.b
      generalize l[i] = s at hcell hnm
      have hold : ∀ j u, (sobj s A' c')[j]? = some u → wr.cell? (ad.add (i * 9 + j)) = some u := fun j u hu => by
        have hW := hcell j u hu
        rw [← hW]
        exact World.cell?_of_block (hBW.block _ (World.block_lt_of_cell? W _ hW))
      have hx := Tab.cell_sub wr ad (i * 9)
      have e0 : wr.cell? (ad.add (i * 9)) = some (.int .i64 s.kind) := hold 0 _ rfl
      have e1 : wr.cell? ⟨(ad.add (i * 9)).block, (ad.add (i * 9)).off + 1, none⟩ = some (.int .i64 s.client) := (hx 1 (by decide)).trans (hold 1 _ rfl)
      have e2 : wr.cell? ⟨(ad.add (i * 9)).block, (ad.add (i * 9)).off + 2, none⟩ = some (.int .i64 s.req) := (hx 2 (by decide)).trans (hold 2 _ rfl)
      have e3 : wr.cell? ⟨(ad.add (i * 9)).block, (ad.add (i * 9)).off + 3, none⟩ = some (.int .i64 s.r.e) := (hx 3 (by decide)).trans (hold 3 _ rfl)
      have e4 : wr.cell? ⟨(ad.add (i * 9)).block, (ad.add (i * 9)).off + 4, none⟩ = some (.string s.r.d) := (hx 4 (by decide)).trans (hold 4 _ rfl)
      have e5 : wr.cell? ⟨(ad.add (i * 9)).block, (ad.add (i * 9)).off + 5, none⟩ = some (.int .i64 s.r.k) := (hx 5 (by decide)).trans (hold 5 _ rfl)
      have e6 : wr.cell? ⟨(ad.add (i * 9)).block, (ad.add (i * 9)).off + 6, none⟩ = some (.int .i64 s.r.l) := (hx 6 (by decide)).trans (hold 6 _ rfl)
      have e7 : wr.cell? ⟨(ad.add (i * 9)).block, (ad.add (i * 9)).off + 7, none⟩ = some (.int .i64 s.r.s) := (hx 7 (by decide)).trans (hold 7 _ rfl)
      have e8 : wr.cell? ⟨(ad.add (i * 9)).block, (ad.add (i * 9)).off + 8, none⟩ = some (.slice A' s.r.n.length c') := (hx 8 (by decide)).trans (hold 8 _ rfl)
      have hb9 : Below wr.heap.size wr (wr.alloc (sboxed s A' c')) := below_alloc (Below.refl _ _) _
      have HN := Aside0.mk ((hnm.step (w' := wr) (fun k hk hlt' => hBW.block k hlt')).below hb9)
      have P : Aside0 ((wr.alloc (sboxed s A' c')).heap[wr.heap.size]? = some (sboxed s A' c')) := ⟨blk_new wr _⟩
      have H0 : Aside0 (Sta W (wr.alloc (sboxed s A' c')) ta rb) := ⟨by
        obtain ⟨ma, bs, m, v, l, h1, h2⟩ := H.out
        exact ⟨ma, bs, m, v, l, h1.below hb9, h2⟩⟩
      have hlt2 : (i : Int) < (l.length : Int) := by omega
      clear hcell hold hnm hBW hx H hb9
      unfold sboxed at *
      go_upto_region 8 with fail
      generalize wr.alloc (.cells #[.int .i64 s.kind, .int .i64 s.client, .int .i64 s.req, .int .i64 s.r.e, .string s.r.d, .int .i64 s.r.k, .int .i64 s.r.l, .int .i64 s.r.s, .slice A' s.r.n.length c'] 31) = W8 at HN P H0 ⊢
      generalize wr.heap.size = g8 at P ⊢
      clear e0 e1 e2 e3 e4 e5 e6 e7 e8
      obtain ⟨ma, bs, m, v, kl, hS, hRel, hOk⟩ := H0.out
      have S0 := Aside0.mk hS
      have R0 := Aside0.mk (And.intro hRel hOk)
      clear hS hRel hOk H0
      have q0 := (blk_cell P.out 0).trans (Eq.refl (some (Value.int .i64 s.kind)))
      have hkl : kl.length ≤ 256 := by
        have := R0.out.1.okL R0.out.2
        simpa [tOf] using this
      have HKl := Aside0.mk hkl
      clear hkl
      go_upto_block 2 with fail
      go_cut [] (fun wc => wc.heap[g8]? = some (.cells #[.int .i64 s.kind, .int .i64 s.client, .int .i64 s.req, .int .i64 s.r.e, .string s.r.d, .int .i64 s.r.k, .int .i64 s.r.l, .int .i64 s.r.s, .slice A' s.r.n.length c'] 31 (0, 0)) ∧ Sta W wc ta rb)
      case first =>
        have PD : Aside0 (W8.drew.heap[g8]? = some (.cells #[.int .i64 s.kind, .int .i64 s.client, .int .i64 s.req, .int .i64 s.r.e, .string s.r.d, .int .i64 s.r.k, .int .i64 s.r.l, .int .i64 s.r.s, .slice A' s.r.n.length c'] 31 (0, 0))) := ⟨P.out⟩
        have SD : Aside0 (ST W W8.drew ta ma bs m rb v kl) := ⟨S0.out.below (below_drew1 (Below.refl _ _))⟩
        have HCl : Aside0 (∀ w' : World, w'.heap[g8]? = some (.cells #[.int .i64 s.kind, .int .i64 s.client, .int .i64 s.req, .int .i64 s.r.e, .string s.r.d, .int .i64 s.r.k, .int .i64 s.r.l, .int .i64 s.r.s, .slice A' s.r.n.length c'] 31 (0, 0)) → w'.cell? ⟨g8, 1, none⟩ = some (.int .i64 s.client) ∧ w'.cell? ⟨g8, 2, none⟩ = some (.int .i64 s.req) ∧ w'.cell? ⟨g8, 3, none⟩ = some (.int .i64 s.r.e) ∧ w'.cell? ⟨g8, 4, none⟩ = some (.string s.r.d) ∧ w'.cell? ⟨g8, 5, none⟩ = some (.int .i64 s.r.k) ∧ w'.cell? ⟨g8, 6, none⟩ = some (.int .i64 s.r.l) ∧ w'.cell? ⟨g8, 7, none⟩ = some (.int .i64 s.r.s) ∧ w'.cell? ⟨g8, 8, none⟩ = some (.slice A' s.r.n.length c')) := ⟨fun w' h => ⟨(blk_cell h 1).trans rfl, (blk_cell h 2).trans rfl, (blk_cell h 3).trans rfl, (blk_cell h 4).trans rfl, (blk_cell h 5).trans rfl, (blk_cell h 6).trans rfl, (blk_cell h 7).trans rfl, (blk_cell h 8).trans rfl⟩⟩
        by_cases k0 : s.kind = 0 ∨ s.kind = 1
        · have HK1 : (s.kind == 0) = true ∨ ((s.kind == 0) = false ∧ (s.kind == 1) = true) := by
            rcases k0 with k | k
            · exact .inl (by simp [k])
            · exact .inr ⟨by simp [k], by simp [k]⟩
          have hbo := begin_both R0.out.1 R0.out.2 s.client s.req
          have HA : Aside0 (∀ w', ST W w' ta ma bs m rb v kl → Calls Try.prog 9 #[ptr ta, .int .i64 s.client, .int .i64 s.req] w' (BeginPost W.heap.size ta ma bs w' (tBegin m s.client s.req))) := ⟨fun w' h => begin_calls h.t h.b.size⟩
          have hR : ∀ w' bs' m', ST W w' ta ma bs' m' rb v kl → Calls Try.prog 14 #[ptr rb, .int .i64 s.client, .int .i64 s.req] w' (RPost W.heap.size rb v w' (bsB (tOf kl) s.client s.req)) := fun w' bs' m' h => rbegin_calls h.r h.b.size HKl.out
          generalize tBegin m s.client s.req = x at HA hbo
          generalize bsB (tOf kl) s.client s.req = y at hR hbo
          obtain ⟨y1, y2⟩ := y
          obtain ⟨x1, x2⟩ := x
          obtain ⟨hc, hbo⟩ := hbo
          dsimp only at hc hbo
          subst hc
          have HR := Aside0.mk hR
          have HBo := Aside0.mk hbo
          unfold Tab.ptr at HA HR
          clear hR hbo k0
          rcases HK1 with k1 | ⟨k1, k2⟩
          all_goals
            go_wp2_with fail
            go_region_held3 (fun w' => w'.cell? ⟨g8, 1, none⟩ = some (.int .i64 s.client) ∧ w'.cell? ⟨g8, 2, none⟩ = some (.int .i64 s.req) ∧ w'.cell? ⟨g8, 3, none⟩ = some (.int .i64 s.r.e) ∧ w'.cell? ⟨g8, 4, none⟩ = some (.string s.r.d) ∧ w'.cell? ⟨g8, 5, none⟩ = some (.int .i64 s.r.k) ∧ w'.cell? ⟨g8, 6, none⟩ = some (.int .i64 s.r.l) ∧ w'.cell? ⟨g8, 7, none⟩ = some (.int .i64 s.r.s) ∧ w'.cell? ⟨g8, 8, none⟩ = some (.slice A' s.r.n.length c')) (first | exact HCl.out _ PD.out | exact HCl.out _ P1.out | exact HCl.out _ P2.out) (first
              | (go_at_call 9; refine (HA.out _ SD.out).mono ?_; rintro e w4 ⟨bs1, rfl, hT, hF, _⟩; have S1 := Aside0.mk (SD.out.left hT hF); have P1 := Aside0.mk (SD.out.keepL hF PD.out (by decide) (by decide)); clear hT hF)
              | (go_at_call 14; refine (HR.out _ _ _ S1.out).mono ?_; rintro e w5 ⟨rfl, v', l', hr, ht, hf, _⟩; have S2 := Aside0.mk (S1.out.right hr hf); have P2 := Aside0.mk (S1.out.keepR hf P1.out); have T2 := Aside0.mk ht; clear hr ht hf))
            all_goals
              go_wp2_with fail
              go_meet
              case rel => exact ⟨P2.out, ma, bs1, x1, v', l', S2.out, by rw [T2.out]; exact HBo.out.1, HBo.out.2⟩
        · have k0b : (s.kind == 0) = false := by simp; omega
          have k1b : (s.kind == 1) = false := by simp; omega
          by_cases k2 : s.kind = 2
          · have k2b : (s.kind == 2) = true := by simp [k2]
            have hbo := done_both R0.out.1 R0.out.2 s.client s.req s.r
            have HA : Aside0 (∀ w', ST W w' ta ma bs m rb v kl → Names W.heap.size w' A' s.r.n c' → Calls Try.prog 10 #[ptr ta, .int .i64 s.client, .int .i64 s.req, vres s.r A' c'] w' (DonePost W.heap.size ta ma bs w' (tDone m s.client s.req s.r))) := ⟨fun w' h hn => done_calls h.t h.b.size hn⟩
            have hR : ∀ w' bs' m', ST W w' ta ma bs' m' rb v kl → Names W.heap.size w' A' s.r.n c' → Calls Try.prog 15 #[ptr rb, .int .i64 s.client, .int .i64 s.req, vres s.r A' c'] w' (RPost W.heap.size rb v w' (tDone (tOf kl) s.client s.req s.r)) := fun w' bs' m' h hn => rdone_calls h.r h.b.size (by have := HKl.out; omega) hn
            generalize tDone m s.client s.req s.r = x at HA hbo
            generalize tDone (tOf kl) s.client s.req s.r = y at hR hbo
            obtain ⟨y1, y2⟩ := y
            obtain ⟨x1, x2⟩ := x
            obtain ⟨hc, hbo⟩ := hbo
            dsimp only at hc hbo
            subst hc
            have HR := Aside0.mk hR
            have HBo := Aside0.mk hbo
            have ND := Aside0.mk (HN.out.below (below_drew1 (Below.refl W8.heap.size W8)))
            unfold Tab.ptr vres at HA HR
            clear hR hbo k0 k2
            go_wp2_with fail
            go_region_held3 (fun w' => w'.cell? ⟨g8, 1, none⟩ = some (.int .i64 s.client) ∧ w'.cell? ⟨g8, 2, none⟩ = some (.int .i64 s.req) ∧ w'.cell? ⟨g8, 3, none⟩ = some (.int .i64 s.r.e) ∧ w'.cell? ⟨g8, 4, none⟩ = some (.string s.r.d) ∧ w'.cell? ⟨g8, 5, none⟩ = some (.int .i64 s.r.k) ∧ w'.cell? ⟨g8, 6, none⟩ = some (.int .i64 s.r.l) ∧ w'.cell? ⟨g8, 7, none⟩ = some (.int .i64 s.r.s) ∧ w'.cell? ⟨g8, 8, none⟩ = some (.slice A' s.r.n.length c')) (first | exact HCl.out _ PD.out | exact HCl.out _ P1.out | exact HCl.out _ P2.out) (first
              | (go_at_call 10; refine (HA.out _ SD.out ND.out).mono ?_; rintro e w4 ⟨rfl, hT, hF⟩; have S1 := Aside0.mk (SD.out.left hT hF); have P1 := Aside0.mk (SD.out.keepL hF PD.out (by decide) (by decide)); have N1 := Aside0.mk (SD.out.namesL hF ND.out); clear hT hF)
              | (go_at_call 15; refine (HR.out _ _ _ S1.out N1.out).mono ?_; rintro e w5 ⟨rfl, v', l', hr, ht, hf, _⟩; have S2 := Aside0.mk (S1.out.right hr hf); have P2 := Aside0.mk (S1.out.keepR hf P1.out); have T2 := Aside0.mk ht; clear hr ht hf))
            all_goals
              go_wp2_with fail
              go_meet
              case rel => exact ⟨P2.out, ma, bs, x1, v', l', S2.out, by rw [T2.out]; exact HBo.out.1, HBo.out.2⟩
          · have k2b : (s.kind == 2) = false := by simp; omega
            clear k0 k2
            go_wp2_with fail
            go_meet
            case rel => exact ⟨P.out, ma, bs, m, v, kl, S0.out, R0.out.1, R0.out.2⟩
      case rest =>
        obtain ⟨P1, hSt⟩ := hcut
        have P2 := Aside0.mk P1
        clear P P1 HN S0 R0 HKl q0 v kl ma bs m
        obtain ⟨ma, bs, m, v, kl, hS, hRel, hOk⟩ := hSt
        have S1 := Aside0.mk hS
        have R1 := Aside0.mk (And.intro hRel hOk)
        have hkl : kl.length ≤ 256 := by
          have := hRel.okL hOk
          simpa [tOf] using this
        have HKl := Aside0.mk hkl
        have HA := Aside0.mk (ask_calls (c := s.client) (r := s.req) hS.t hS.b.size)
        have HR : Aside0 (∀ w', ST W w' ta ma bs m rb v kl → Calls Try.prog 16 #[ptr rb, .int .i64 s.client, .int .i64 s.req] w' (AskPost W.heap.size w' (tAsk m s.client s.req))) := ⟨fun w' h => by
          have := rask_calls (c := s.client) (r := s.req) h.r h.b.size (by have := HKl.out; omega)
          rwa [ask_both R1.out.1] at this⟩
        have c1 := (blk_cell P2.out 1).trans (Eq.refl (some (Value.int .i64 s.client)))
        have c2 := (blk_cell P2.out 2).trans (Eq.refl (some (Value.int .i64 s.req)))
        generalize tAsk m s.client s.req = a at HA HR
        obtain ⟨a1, y, a3⟩ := a
        unfold Tab.ptr at HA HR
        clear hS hRel hOk hkl
        go_wp2_with fail
        refine HA.out.mono ?_
        rintro e w3 ⟨A3, c3, rfl, hn, hb⟩
        dsimp only at hn ⊢
        have hb4 := below_alloc (Below.refl w3.heap.size w3) (.cells #[.int .i64 y.e, .string y.d, .int .i64 y.k, .int .i64 y.l, .int .i64 y.s, .slice A3 y.n.length c3] 29)
        have B4 := Aside0.mk (hb.trans (hb4.mono hb.size))
        have N4 := Aside0.mk (hn.below hb4)
        have Q4 := Aside0.mk (blk_new w3 (.cells #[.int .i64 y.e, .string y.d, .int .i64 y.k, .int .i64 y.l, .int .i64 y.s, .slice A3 y.n.length c3] 29))
        clear hn hb hb4 HA c1 c2
        unfold vres
        go_upto_region 17 with fail
        generalize w3.alloc (.cells #[.int .i64 y.e, .string y.d, .int .i64 y.k, .int .i64 y.l, .int .i64 y.s, .slice A3 y.n.length c3] 29) = w4 at B4 N4 Q4 ⊢
        generalize w3.heap.size = g4 at Q4 ⊢
        have S4 := Aside0.mk (S1.out.below B4.out)
        have P4 := Aside0.mk (blk_below P2.out B4.out)
        clear S1 P2
        have c1 := (blk_cell P4.out 1).trans (Eq.refl (some (Value.int .i64 s.client)))
        have c2 := (blk_cell P4.out 2).trans (Eq.refl (some (Value.int .i64 s.req)))
        have HR4 := Aside0.mk (HR.out _ S4.out)
        go_wp2_with fail
        refine HR4.out.mono ?_
        rintro e w5 ⟨A5, c5, rfl, hn, hb⟩
        dsimp only at hn ⊢
        have hb6 := below_alloc (Below.refl w5.heap.size w5) (.cells #[.int .i64 y.e, .string y.d, .int .i64 y.k, .int .i64 y.l, .int .i64 y.s, .slice A5 y.n.length c5] 29)
        have B6 := Aside0.mk (hb.trans (hb6.mono hb.size))
        have N6 := Aside0.mk (hn.below hb6)
        have Q6 := Aside0.mk (blk_new w5 (.cells #[.int .i64 y.e, .string y.d, .int .i64 y.k, .int .i64 y.l, .int .i64 y.s, .slice A5 y.n.length c5] 29))
        clear hn hb hb6 HR HR4 c1 c2
        unfold vres
        go_upto_region 18 with fail
        generalize w5.alloc (.cells #[.int .i64 y.e, .string y.d, .int .i64 y.k, .int .i64 y.l, .int .i64 y.s, .slice A5 y.n.length c5] 29) = w6 at B6 N6 Q6 ⊢
        generalize w5.heap.size = g6 at Q6 ⊢
        have S6 := Aside0.mk (S4.out.below B6.out)
        have P6 := Aside0.mk (blk_below P4.out B6.out)
        have Q4' := Aside0.mk (blk_below Q4.out B6.out)
        have N4' := Aside0.mk (N4.out.below B6.out)
        clear S4 P4 Q4 N4
        have d0 := (blk_cell Q4'.out 0).trans rfl
        have f0 := (blk_cell Q6.out 0).trans rfl
        have d1 := (blk_cell Q4'.out 1).trans rfl
        have f1 := (blk_cell Q6.out 1).trans rfl
        have d2 := (blk_cell Q4'.out 2).trans rfl
        have f2 := (blk_cell Q6.out 2).trans rfl
        have d3 := (blk_cell Q4'.out 3).trans rfl
        have f3 := (blk_cell Q6.out 3).trans rfl
        have d4 := (blk_cell Q4'.out 4).trans rfl
        have f4 := (blk_cell Q6.out 4).trans rfl
        have d5 := (blk_cell Q4'.out 5).trans rfl
        have f5 := (blk_cell Q6.out 5).trans rfl
        have HRes := Aside0.mk (result_calls (a := y) (b := y) N4'.out N6.out)
        rw [(sameRes_iff y y).2 rfl] at HRes
        unfold vres at HRes
        go_wp2_with fail
        refine HRes.out.mono ?_
        rintro e w7 ⟨rfl, hb⟩
        have S7 := Aside0.mk (S6.out.below hb)
        have P7 := Aside0.mk (blk_below P6.out hb)
        clear hb HRes S6 P6 Q4' N4' N6 Q6 B4 B6 d0 f0 d1 f1 d2 f2 d3 f3 d4 f4 d5 f5
        have c0 := S7.out.r.c0
        obtain ⟨Av, cv, rfl⟩ := S7.out.r.row.slice
        go_wp2_with fail
        go_loopw [13, 14, 15, 107] (fun v13 v14 v15 v107 wr => ∃ j : Nat, j ≤ kl.length ∧ v107 = .int .i64 (j : Int) ∧ v14 = .int .i64 ((kl.take j).foldl (fstep s.client) (0, false)).1 ∧ v15 = .bool ((kl.take j).foldl (fstep s.client) (0, false)).2 ∧ Aside0 (wr.ownsRow w7.heap.size 3 1 v13 j ((kl.take j).map fun x => Value.int .i64 x.c)) ∧ Aside0 (Below w7.heap.size w7 wr)) (fun _ _ _ x _ => kl.length - (intOf x).toNat)
        case atStart => exact ⟨0, by omega, rfl, rfl, rfl, ⟨own_nil _ _ _ _⟩, ⟨Below.refl _ _⟩⟩
        case round =>
          obtain ⟨j, hj, rfl, rfl, rfl, HRow, HB⟩ := hrel
          clear c0
          obtain ⟨A9, c9, rfl⟩ := Go.Proofs.YtjjbikpjkbdabaaW.PrintWords.own_slice HRow.out
          by_cases hjl : j < kl.length
          · obtain ⟨x, hx⟩ : ∃ x, kl[j]? = some x := ⟨_, List.getElem?_eq_getElem hjl⟩
            obtain ⟨g, rfl, hcl⟩ := (S7.out.r.below HB.out).row.at_ hx
            have x0 : wr.cell? ⟨g, j * 9, none⟩ = some (.int .i64 x.c) := hcl 0 _ rfl
            have x1 : wr.cell? ⟨g, j * 9 + 1, none⟩ = some (.int .i64 x.k.req) := hcl 1 _ rfl
            have x2 : wr.cell? ⟨g, j * 9 + 2, none⟩ = some (.bool x.k.done) := hcl 2 _ rfl
            have x3 : wr.cell? ⟨g, j * 9 + 3, none⟩ = some (.int .i64 x.k.res.e) := hcl 3 _ rfl
            have x4 : wr.cell? ⟨g, j * 9 + 4, none⟩ = some (.string x.k.res.d) := hcl 4 _ rfl
            have x5 : wr.cell? ⟨g, j * 9 + 5, none⟩ = some (.int .i64 x.k.res.k) := hcl 5 _ rfl
            have x6 : wr.cell? ⟨g, j * 9 + 6, none⟩ = some (.int .i64 x.k.res.l) := hcl 6 _ rfl
            have x7 : wr.cell? ⟨g, j * 9 + 7, none⟩ = some (.int .i64 x.k.res.s) := hcl 7 _ rfl
            have x8 : wr.cell? ⟨g, j * 9 + 8, none⟩ = some (.slice x.A x.k.res.n.length x.p) := hcl 8 _ rfl
            have hj2 : (j : Int) < (kl.length : Int) := by omega
            have htk : kl.take (j + 1) = kl.take j ++ [x] := by rw [List.take_add_one, hx]; rfl
            have HTk := Aside0.mk htk
            have hb8 := below_alloc (Below.refl wr.heap.size wr) (.cells #[.int .i64 x.c, .int .i64 x.k.req, .bool x.k.done, .int .i64 x.k.res.e, .string x.k.res.d, .int .i64 x.k.res.k, .int .i64 x.k.res.l, .int .i64 x.k.res.s, .slice x.A x.k.res.n.length x.p] 54)
            have P9 := Aside0.mk (blk_new wr (.cells #[.int .i64 x.c, .int .i64 x.k.req, .bool x.k.done, .int .i64 x.k.res.e, .string x.k.res.d, .int .i64 x.k.res.k, .int .i64 x.k.res.l, .int .i64 x.k.res.s, .slice x.A x.k.res.n.length x.p] 54))
            have B9 := Aside0.mk (HB.out.trans (hb8.mono HB.out.size))
            have R9 := Aside0.mk (own_move HRow.out (fun k hk => hb8.block k (own_lt HRow.out k hk)))
            have HNe : Aside0 (∀ k, (Value.slice A9 j c9).ownBlock = some k → k < wr.heap.size) := ⟨fun k hk => own_lt HRow.out k hk⟩
            have hjk : j ≤ 256 := Nat.le_trans hj HKl.out
            have hml : (j + 1) * 8 ≤ 140737488355328 := hm_le8 hjk
            clear hcl hx htk hb8
            go_upto_region 26 with fail
            generalize wr.alloc (.cells #[.int .i64 x.c, .int .i64 x.k.req, .bool x.k.done, .int .i64 x.k.res.e, .string x.k.res.d, .int .i64 x.k.res.k, .int .i64 x.k.res.l, .int .i64 x.k.res.s, .slice x.A x.k.res.n.length x.p] 54) = W9 at P9 B9 R9 ⊢
            generalize wr.heap.size = g9 at P9 HNe ⊢
            clear x0 x1 x2 x3 x4 x5 x6 x7 x8 HB HRow
            have y0 := (blk_cell P9.out 0).trans (Eq.refl (some (Value.int .i64 x.c)))
            go_upto_region 27 with (at_builtin; refine print_append_cells w7.heap.size rfl (.tmp 111) (.tmp 114) 52 3 (.int .i64 0) 1 8 rfl Try.underlying52 infoI1 rfl (by decide) (by decide) _ _ _ [.int .i64 x.c] rfl rfl rfl (by intro u hu; simp at hu; rw [hu]; rfl) R9.out B9.out B9.out.size hml ?_; intro v10 w10 hr10 hb10 hg10 _; have R10 := Aside0.mk hr10; have B10 := Aside0.mk hb10; have G10 := Aside0.mk hg10; clear hr10 hb10 hg10)
            have P10 := Aside0.mk ((G10.out.block g9 (blk_lt P9.out) (fun e => Nat.lt_irrefl _ (HNe.out g9 e.symm))).trans P9.out)
            have S10 := Aside0.mk (blk_below P7.out B10.out)
            have R11 : Aside0 (w10.ownsRow w7.heap.size 3 1 v10 (j + 1) ((kl.take (j + 1)).map fun x => Value.int .i64 x.c)) := ⟨by rw [HTk.out, List.map_append]; exact R10.out⟩
            clear y0 P9 R10
            have y0 := (blk_cell P10.out 0).trans (Eq.refl (some (Value.int .i64 x.c)))
            have y1 := (blk_cell P10.out 1).trans (Eq.refl (some (Value.int .i64 x.k.req)))
            have z1 := (blk_cell S10.out 1).trans (Eq.refl (some (Value.int .i64 s.client)))
            by_cases e : x.c = s.client
            · have r1 : (x.c == s.client) = true := by simpa using e
              have HFo : Aside0 ((kl.take (j + 1)).foldl (fstep s.client) (0, false) = (x.k.req, true)) := ⟨by rw [HTk.out, List.foldl_append]; show fstep s.client _ x = _; unfold fstep; rw [if_pos e]⟩
              clear e
              go_wp2_with fail
              go_roundw
              case rel => exact ⟨j + 1, by omega, by go_num, by rw [HFo.out], by rw [HFo.out], R11, B10⟩
              case measure => simp [intOf]; omega
            · have r1 : (x.c == s.client) = false := by simpa using e
              have HFo : Aside0 ((kl.take (j + 1)).foldl (fstep s.client) (0, false) = (kl.take j).foldl (fstep s.client) (0, false)) := ⟨by rw [HTk.out, List.foldl_append]; show fstep s.client _ x = _; unfold fstep; rw [if_neg e]⟩
              clear e
              go_wp2_with fail
              go_roundw
              case rel => exact ⟨j + 1, by omega, by go_num, by rw [HFo.out], by rw [HFo.out], R11, B10⟩
              case measure => simp [intOf]; omega
          · obtain rfl : j = kl.length := by omega
            have hrow := HRow.out
            rw [List.take_of_length_le (Nat.le_refl _)] at hrow
            rw [List.take_of_length_le (Nat.le_refl _), fold_last R1.out.1.rs.nodup, last_both R1.out.1]
            have SX := Aside0.mk (S7.out.below HB.out)
            have PX := Aside0.mk (blk_below P7.out HB.out)
            have z1 := (blk_cell PX.out 1).trans (Eq.refl (some (Value.int .i64 s.client)))
            have HLs := Aside0.mk (last_calls (c := s.client) SX.out.t)
            generalize last m s.client = la at HLs ⊢
            obtain ⟨l1, l2⟩ := la
            have hmk : m.length = kl.length := by have := R1.out.1.len; simpa [tOf] using this.symm
            have HCs := Aside0.mk (clients_calls SX.out.t R1.out.1.nd R1.out.2.wf R1.out.2.len)
            rw [R1.out.1.sorted, hmk] at HCs
            have hzl : ((tOf kl).map (·.1)).length = kl.length := by simp [tOf]
            have hzs : (kl.map fun x => Value.int .i64 x.c) = ((tOf kl).map (·.1)).map (Value.int .i64) := by simp [tOf, Kn.kv, List.map_map, Function.comp_def]
            rw [hzs] at hrow
            have HRow2 := Aside0.mk hrow
            have HZl := Aside0.mk hzl
            clear hrow hzs hzl hmk HRow
            generalize (tOf kl).map (·.1) = zs at HCs HRow2 HZl
            unfold Tab.ptr at HLs HCs
            dsimp only at HLs
            go_wp2_with fail
            refine HLs.out.mono ?_
            rintro e w8 ⟨rfl, rfl⟩
            go_wp2_with fail
            refine HCs.out.mono ?_
            rintro e w9 ⟨vc, rfl, hr, hb⟩
            obtain ⟨Ac, cc, rfl⟩ := Go.Proofs.YtjjbikpjkbdabaaW.PrintWords.own_slice hr
            have hI := ints_calls (w := w9) (zs := zs) (b := _) (b2 := _) (A := Ac) (A2 := A9) (c := cc) (c2 := c9) (by rw [HZl.out]; exact hr) (by rw [HZl.out]; exact own_move HRow2.out (fun k hk => hb.block k (own_lt HRow2.out k hk))) (by rw [HZl.out]; have := HKl.out; omega)
            rw [HZl.out] at hI
            have HI := Aside0.mk hI
            have S9 := Aside0.mk (SX.out.below hb)
            clear hr hb hI
            go_wp2_with fail
            refine HI.out.mono ?_
            rintro e w10 ⟨rfl, hb⟩
            have S10 : Aside0 (Sta W w10 ta rb) := ⟨ma, bs, m, _, kl, S9.out.below hb, R1.out.1, R1.out.2⟩
            clear hb
            go_wp2_with fail
            go_roundw
            case rel => exact ⟨i + 1, by omega, by go_num, S10⟩
            case measure => simp [intOf]; omega
    · obtain rfl : i = l.length := by omega
      have HB : Aside0 (Below W.heap.size W wr) := ⟨by obtain ⟨_, _, _, _, _, h, _⟩ := H.out; exact h.b⟩
      clear H
      go_wp2_with fail
      refine (speaks_calls _).mono ?_
      rintro e w3 ⟨rfl, hb⟩
      have HB3 := Aside0.mk (HB.out.trans (hb.mono HB.out.size))
      clear hb
      go_wp2_with fail
      go_ret
      exact ⟨rfl, HB3.out⟩
theorem opens_stepsL : Open.Opens Try.prog 22 (Kd.slice 31 stepK) (fun l => l.length ≤ 140737488351232 ∧ ∀ s ∈ l, goodStep s) :=
  Open.Opens.mono (Open.opens_slice Try.underlying22 opens_step (by kernel_rfl) (by_ := 96) (by kernel_rfl)) (fun x h => ⟨by have h1 : x.length * 96 ≤ 140737488351232 := h.1; omega, h.2⟩)
theorem TableSteps (W : World) (A : Option Addr) (n c : Nat) (l : List Step) (h : (Kd.slice 31 stepK).K W l [.slice A n c]) (hg : l.length ≤ 140737488351232 ∧ ∀ s ∈ l, goodStep s) :
    Calls Try.prog 5 #[.slice A n c] W fun e W' => e = .returned (.bool true) ∧ Below W.heap.size W W' := by
  obtain ⟨A1, c1, he, hcc, hC⟩ := h
  obtain ⟨rfl, rfl, rfl⟩ : A = A1 ∧ n = l.length ∧ c = c1 := by simpa using he
  exact tableSteps W A c l hcc hg.1 hC hg.2
end Go.Proofs.Ytjjbikpjkbdabaa.Core
