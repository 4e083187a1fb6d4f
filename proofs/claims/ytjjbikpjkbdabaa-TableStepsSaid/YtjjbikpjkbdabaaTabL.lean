/- Steps of tables: how a list of steps lies in memory, what a step does, and two tables side by side. -/
import Derived.Test.YtjjbikpjkbdabaaTabS
import Derived.Test.YtjjbikpjkbdabaaOpen
set_option linter.unusedVariables false
set_option linter.unusedSimpArgs false
namespace Go.Proofs.Ytjjbikpjkbdabaa.Tab
open Go.RowKit Go.Proofs.YtjjbikpjkbdabaaW.PrintWords Go.Proofs.YtjjbikpjkbdabaaW.PrintLast Go.Proofs.YtjjbikpjkbdabaaW.PrintMore Go.Proofs.Ytjjbikpjkbdabaa.Maps Go.Proofs.Ytjjbikpjkbdabaa.TabS Go.Proofs.Ytjjbikpjkbdabaa.Open

theorem cell_sub (w : World) (ad : Addr) (m j : Nat) (hj : j ≠ 0) : w.cell? ⟨(ad.add m).block, (ad.add m).off + j, none⟩ = w.cell? (ad.add (m + j)) := by
  have h1 : (ad.add m).block = ad.block := by unfold Addr.add; split <;> rfl
  have h2 : (ad.add m).off = ad.off + m := by
    unfold Addr.add
    split
    · rename_i h; have h' : m = 0 := by simpa using h
      rw [h', Nat.add_zero]
    · rfl
  have h3 : ad.add (m + j) = ⟨ad.block, ad.off + (m + j), none⟩ := by
    unfold Addr.add
    split
    · rename_i h; have h' : m + j = 0 := by simpa using h
      omega
    · rfl
  rw [h1, h2, h3, Nat.add_assoc]
structure Step where
  kind : Int
  client : Int
  req : Int
  r : Res
def resK : Kd Res := Kd.iso (Kd.pair (Kd.int .i64) (Kd.pair Kd.string (Kd.pair (Kd.int .i64) (Kd.pair (Kd.int .i64) (Kd.pair (Kd.int .i64) (Kd.slice 9 Kd.string)))))) (fun r => (r.e, r.d, r.k, r.l, r.s, r.n))
def stepK : Kd Step := Kd.iso (Kd.pair (Kd.int .i64) (Kd.pair (Kd.int .i64) (Kd.pair (Kd.int .i64) resK))) (fun s => (s.kind, s.client, s.req, s.r))
def goodStep (s : Step) : Prop := s.r.n.length * 16 ≤ 140737488351232
theorem opens_res : Opens Try.prog 29 resK (fun r => r.n.length * 16 ≤ 140737488351232) := by
  refine Opens.mono (opens_iso _ (fun x => ⟨x.1, x.2.1, x.2.2.1, x.2.2.2.1, x.2.2.2.2.1, x.2.2.2.2.2⟩) (fun _ => rfl) (opens_struct Try.underlying29 rfl (opensF_cons (opens_int Try.underlying26) (by kernel_rfl) (opensF_cons (opens_string Try.underlying9) (by kernel_rfl) (opensF_cons (opens_int Try.underlying3) (by kernel_rfl) (opensF_cons (opens_int Try.underlying3) (by kernel_rfl) (opensF_cons (opens_int Try.underlying3) (by kernel_rfl) (opensF_one (opens_slice Try.underlying27 (opens_string Try.underlying9) (by kernel_rfl) (by_ := 16) (by kernel_rfl)) (by kernel_rfl)) rfl) rfl) rfl) rfl) rfl) (by kernel_rfl))) (fun x h => h.2.2.2.2.2.1)
theorem opens_step : Opens Try.prog 31 stepK goodStep := by
  refine Opens.mono (opens_iso _ (fun x => ⟨x.1, x.2.1, x.2.2.1, x.2.2.2⟩) (fun _ => rfl) (opens_struct Try.underlying31 rfl (opensF_cons (opens_int Try.underlying3) (by kernel_rfl) (opensF_cons (opens_int Try.underlying3) (by kernel_rfl) (opensF_cons (opens_int Try.underlying3) (by kernel_rfl) (opensF_one opens_res (by kernel_rfl)) rfl) rfl) rfl) (by kernel_rfl))) (fun x h => h.2.2.2)
theorem opens_steps : Opens Try.prog 22 (Kd.slice 31 stepK) (fun l => ∀ s ∈ l, goodStep s) :=
  Opens.mono (opens_slice Try.underlying22 opens_step (by kernel_rfl) rfl) (fun x h => h.2)

def sobj (s : Step) (A : Option Addr) (c : Nat) : Array Value := #[.int .i64 s.kind, .int .i64 s.client, .int .i64 s.req, .int .i64 s.r.e, .string s.r.d, .int .i64 s.r.k, .int .i64 s.r.l, .int .i64 s.r.s, .slice A s.r.n.length c]
/-- The i-th step of a list that lies in the elder memory. -/
theorem step_at {W : World} {A : Option Addr} {l : List Step} (h : Kd.C stepK W A l.length l) (hg : ∀ s ∈ l, goodStep s) (i : Nat) (hi : i < l.length) :
    ∃ ad A' c', A = some ad ∧ (∀ j u, (sobj l[i] A' c')[j]? = some u → W.cell? (ad.add (i * 9 + j)) = some u) ∧ Names W.heap.size W A' l[i].r.n c' := by
  obtain ⟨ad, hA, hc⟩ := h.2.2 (by omega)
  obtain ⟨c, hl, hk, hcell⟩ := hc i l[i] (List.getElem?_eq_getElem hi)
  obtain ⟨_, _, rfl, rfl, _, _, rfl, rfl, _, _, rfl, rfl, _, _, rfl, rfl, _, _, rfl, rfl, _, _, rfl, rfl, _, _, rfl, rfl, _, _, rfl, rfl, A', c', rfl, hcap, hC⟩ := hk
  refine ⟨ad, A', c', hA, fun j u hu => hcell j u (by simpa [sobj] using hu), ⟨hcap, hg _ (List.getElem_mem hi), ?_⟩⟩
  exact Kd.F_mono (Kd.C_F Kd.heap_string hC) (fun k hk => .inl hk)

def tabStep (m : T) (s : Step) : T := if s.kind = 0 then (tBegin m s.client s.req).1 else if s.kind = 1 then (tBegin m s.client s.req).1 else if s.kind = 2 then (tDone m s.client s.req s.r).1 else m
theorem ask_same {m n : T} {c : Int} (h : mget m c = mget n c) (r : Int) : tAsk m c r = tAsk n c r := by unfold tAsk; rw [h]
theorem begin_same {m n : T} {c : Int} (h : mget m c = mget n c) (hm : m.length < 256) (hn : n.length < 256) (r : Int) : mget (tBegin m c r).1 c = mget (tBegin n c r).1 c := by
  unfold tBegin
  rw [ask_same h r]
  by_cases h1 : (tAsk n c r).2.2 = 0
  · rw [if_pos h1, if_pos h1]
    by_cases h2 : (tAsk n c r).1 = 1
    · rw [if_pos h2, if_pos h2, if_neg (fun q => by omega), if_neg (fun q => by omega)]
      simp only [mget_mput, if_pos]
    · rw [if_neg h2, if_neg h2]; exact h
  · rw [if_neg h1, if_neg h1]; exact h
theorem begin_other (m : T) (c r d : Int) (hd : c ≠ d) : mget (tBegin m c r).1 d = mget m d := by
  unfold tBegin
  split
  · split
    · split
      · rfl
      · simp only [mget_mput, if_neg hd]
    · rfl
  · rfl
theorem begin_len (m : T) (c r : Int) : (tBegin m c r).1.length ≤ m.length + 1 := by
  unfold tBegin
  split
  · split
    · split
      · exact Nat.le_succ _
      · simp only [length_mput]; split <;> omega
    · exact Nat.le_succ _
  · exact Nat.le_succ _
theorem done_same {m n : T} {c : Int} (h : mget m c = mget n c) (r : Int) (x : Res) : mget (tDone m c r x).1 c = mget (tDone n c r x).1 c := by
  unfold tDone
  rw [h]
  split
  · exact h
  · split
    · exact h
    · split
      · split
        · exact h
        · simp only [mget_mput, if_pos]
      · exact h
theorem done_others (m : T) (c r d : Int) (x : Res) (hd : c ≠ d) : mget (tDone m c r x).1 d = mget m d := by
  unfold tDone
  split
  · rfl
  · split
    · rfl
    · split
      · split
        · rfl
        · simp only [mget_mput, if_neg hd]
      · rfl
theorem done_len (m : T) (c r : Int) (x : Res) : (tDone m c r x).1.length ≤ m.length + 1 := by
  unfold tDone
  split
  · exact Nat.le_succ _
  · split
    · exact Nat.le_succ _
    · split
      · split
        · exact Nat.le_succ _
        · simp only [length_mput]; split <;> omega
      · exact Nat.le_succ _
theorem step_same {m n : T} {s : Step} (h : mget m s.client = mget n s.client) (hm : m.length < 256) (hn : n.length < 256) : mget (tabStep m s) s.client = mget (tabStep n s) s.client := by
  unfold tabStep
  split
  · exact begin_same h hm hn _
  · split
    · exact begin_same h hm hn _
    · split
      · exact done_same h _ _
      · exact h
theorem step_other (m : T) (s : Step) (d : Int) (hd : s.client ≠ d) : mget (tabStep m s) d = mget m d := by
  unfold tabStep
  split
  · exact begin_other m _ _ _ hd
  · split
    · exact begin_other m _ _ _ hd
    · split
      · exact done_others m _ _ _ _ hd
      · rfl
theorem step_len (m : T) (s : Step) : (tabStep m s).length ≤ m.length + 1 := by
  unfold tabStep
  split
  · exact begin_len m _ _
  · split
    · exact begin_len m _ _
    · split
      · exact done_len m _ _ _
      · exact Nat.le_succ _
/-- Of one client both tables tell the same; neither is full. -/
def R0 (d : Int) (i : Nat) (m n : T) : Prop := mget m d = mget n d ∧ m.length ≤ i ∧ n.length ≤ i
/-- The step was done at the first table alone. -/
def R1 (d : Int) (i : Nat) (s : Step) (m n : T) : Prop := mget m d = mget (if s.client = d then tabStep n s else n) d ∧ m.length ≤ i + 1 ∧ n.length ≤ i
theorem R1_of {d : Int} {i : Nat} {s : Step} {m n : T} (h : R0 d i m n) (hi : i ≤ 200) : R1 d i s (tabStep m s) n := by
  refine ⟨?_, by have := step_len m s; have := h.2.1; omega, h.2.2⟩
  by_cases e : s.client = d
  · rw [if_pos e]
    subst e
    exact step_same h.1 (by have := h.2.1; omega) (by have := h.2.2; omega)
  · rw [if_neg e, step_other m s d e]
    exact h.1
theorem R0_of {d : Int} {i : Nat} {s : Step} {m n : T} (h : R1 d i s m n) (e : s.client = d) : R0 d (i + 1) m (tabStep n s) := by
  have h1 := h.1
  rw [if_pos e] at h1
  exact ⟨h1, h.2.1, by have := step_len n s; have := h.2.2; omega⟩
theorem R0_not {d : Int} {i : Nat} {s : Step} {m n : T} (h : R1 d i s m n) (e : s.client ≠ d) : R0 d (i + 1) m n := by
  have h1 := h.1
  rw [if_neg e] at h1
  exact ⟨h1, h.2.1, by have := h.2.2; omega⟩

section
variable {B tb mb ta ma : Nat} {bs bsA bsB : List (Int × Nat)} {m mA mB : T} {w w' W : World} {R R' : T → T → Prop}
theorem TabIs.base (h : TabIs B w tb mb bs m) {k : Nat} (hk : fp tb mb bs k) : B ≤ k := by
  rcases hk with rfl | rfl | ⟨c, hc⟩
  · exact h.baseT
  · exact h.baseM
  · exact h.baseK c k hc
theorem TabIs.fp_lt (h : TabIs B w tb mb bs m) {k : Nat} (hk : fp tb mb bs k) : k < w.heap.size := by
  rcases hk with rfl | rfl | ⟨c, hc⟩
  · exact blk_lt h.tab
  · exact h.map.lt
  · obtain ⟨k', _, A, c', h4, _⟩ := h.read c k hc
    exact blk_lt h4
theorem TabIs.not_step (h : TabIs B w tb mb bs m) {k : Nat} {cs : Array Value} {t : Nat} (hb : w.heap[k]? = some (.cells cs t (0, 0))) (h1 : t ≠ 60) (h2 : t ≠ 64) : ¬ fp tb mb bs k := by
  intro hk
  rcases hk with rfl | rfl | ⟨c, hc⟩
  · have := h.tab; rw [hb] at this; simp at this; exact h1 this.2
  · obtain ⟨es, clock, h5, _⟩ := h.map; rw [hb] at h5; simp at h5
  · obtain ⟨k', _, A, c', h4, _⟩ := h.read c k hc; rw [hb] at h4; simp at h4; exact h2 h4.2
/-- Two tables, apart from each other, of which R holds. -/
def Two (W w : World) (ta tb : Nat) (R : T → T → Prop) : Prop :=
  ∃ ma bsA mA mb bsB mB, TabIs W.heap.size w ta ma bsA mA ∧ TabIs W.heap.size w tb mb bsB mB ∧ (∀ k, fp ta ma bsA k → ¬ fp tb mb bsB k) ∧ Below W.heap.size W w ∧ R mA mB
theorem Two.swap (h : Two W w ta tb R) : Two W w tb ta (fun a b => R b a) := by
  obtain ⟨ma, bsA, mA, mb, bsB, mB, h1, h2, h3, h4, h5⟩ := h
  exact ⟨mb, bsB, mB, ma, bsA, mA, h2, h1, fun k hk hk' => h3 k hk' hk, h4, h5⟩
theorem Two.below (h : Two W w ta tb R) (hb : Below w.heap.size w w') : Two W w' ta tb R := by
  obtain ⟨ma, bsA, mA, mb, bsB, mB, h1, h2, h3, h4, h5⟩ := h
  exact ⟨ma, bsA, mA, mb, bsB, mB, h1.below hb, h2.below hb, h3, h4.trans (hb.mono h4.size), h5⟩
theorem Two.imp (h : Two W w ta tb R) (hr : ∀ a b, R a b → R' a b) : Two W w ta tb R' := by
  obtain ⟨ma, bsA, mA, mb, bsB, mB, h1, h2, h3, h4, h5⟩ := h
  exact ⟨ma, bsA, mA, mb, bsB, mB, h1, h2, h3, h4, hr _ _ h5⟩
theorem two_op {bs' : List (Int × Nat)} {m' : T} (h1 : TabIs W.heap.size w ta ma bsA mA) (h2 : TabIs W.heap.size w tb mb bsB mB) (h3 : ∀ k, fp ta ma bsA k → ¬ fp tb mb bsB k) (h4 : Below W.heap.size W w)
    (hT : TabIs W.heap.size w' ta ma bs' m') (hF : Fr w w' (fp ta ma bsA)) (hp : ∀ k, fp ta ma bs' k → fp ta ma bsA k ∨ w.heap.size ≤ k) (hR : R' m' mB) : Two W w' ta tb R' :=
  ⟨ma, bs', m', mb, bsB, mB, hT, h2.fr hF (fun k hk hk' => h3 k hk' hk) (fun k hk => h1.not_ok hk), fun k hk hk' => by
    rcases hp k hk with h | h
    · exact h3 k h hk'
    · have := h2.fp_lt hk'; omega, hF.below h4 (fun k hk => h1.base hk) h4.size, hR⟩
/-- What a step turns besides. -/
theorem two_keep (h1 : TabIs W.heap.size w ta ma bsA mA) (hF : Fr w w' (fp ta ma bsA)) {k : Nat} {cs : Array Value} {t : Nat} (hb : w.heap[k]? = some (.cells cs t (0, 0))) (hx : t ≠ 60) (hy : t ≠ 64) : w'.heap[k]? = some (.cells cs t (0, 0)) :=
  (hF.block k (blk_lt hb) (h1.not_step hb hx hy)).trans hb
theorem two_names {A : Option Addr} {n : List ByteArray} {c : Nat} (h1 : TabIs W.heap.size w ta ma bsA mA) (hF : Fr w w' (fp ta ma bsA)) (hn : Names W.heap.size w A n c) : Names W.heap.size w' A n c :=
  hn.step (fun k hk hlt => hF.block k hlt (fun h => h1.not_ok h hk))
end
end Go.Proofs.Ytjjbikpjkbdabaa.Tab
