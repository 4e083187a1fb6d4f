/- Of every list of steps: TableOnce answers true, and what was in memory stays. -/
import Derived.Test.YtjjbikpjkbdabaaTabO
set_option linter.unusedVariables false
set_option linter.unusedSimpArgs false
namespace Go.Proofs.Ytjjbikpjkbdabaa.Core
open Go.RowKit Go.Proofs.YtjjbikpjkbdabaaW.PrintWords Go.Proofs.YtjjbikpjkbdabaaW.PrintLast Go.Proofs.YtjjbikpjkbdabaaW.PrintMore Go.Proofs.Ytjjbikpjkbdabaa.Maps Go.Proofs.Ytjjbikpjkbdabaa.TabS Go.Proofs.Ytjjbikpjkbdabaa.Tab

set_option maxHeartbeats 2000000 in
set_option maxRecDepth 100000 in
theorem once_long (W : World) (A : Option Addr) (c n : Nat) (hn : 300 < n) : Calls Try.prog 4 #[.slice A n c] W fun e W' => e = .returned (.bool true) ∧ Below W.heap.size W W' := by
  have hut := Try.underlying23
  have b1 : decide (300 < (n : Int)) = true := decide_eq_true (by omega)
  go_enter Try.func4, Try.ntmps4
  go_wp2_with fail
  refine (new_calls W.heap.size W (Nat.le_refl _)).mono ?_
  rintro e w1 ⟨ta, ma, rfl, hT, hb, h1, h2⟩
  have HB := Aside0.mk hb
  clear hT hb
  unfold ptr
  go_wp2_with fail
  refine (speaks_calls w1).mono ?_
  rintro e w3 ⟨rfl, hb⟩
  have HB3 := Aside0.mk (HB.out.trans (hb.mono HB.out.size))
  clear hb
  go_wp2_with fail
  go_ret
  exact ⟨rfl, HB3.out⟩

def Began (W w : World) (v : Value) (bl : List (Int × Int)) : Prop := w.ownsRow W.heap.size 40 2 v bl.length (flatO bl)
def Dones (W w : World) (v : Value) (dl : List El) : Prop := w.ownsRow W.heap.size 31 9 v dl.length (flatS dl) ∧ ∀ x ∈ dl, Names W.heap.size w x.A x.s.r.n x.c
/-- The state ahead of the i-th step. -/
def St (W w : World) (ta : Nat) (i : Nat) (v4 v5 : Value) : Prop :=
  ∃ ma bsA m bl dl, TabIs W.heap.size w ta ma bsA m ∧ Below W.heap.size W w ∧ Began W w v4 bl ∧ Dones W w v5 dl ∧ Inv m bl dl ∧ bl.length ≤ i ∧ dl.length ≤ i
theorem own_slice {w : World} {base : Nat} {e : TypeId} {size : Nat} {v : Value} {n : Nat} {xs : List Value} (h : w.ownsRow base e size v n xs) : ∃ A c, v = .slice A n c := by
  rcases h.2 with ⟨rfl, h0⟩ | ⟨g, cap, cur, rfl, _⟩
  · exact ⟨none, 0, by rw [h0]⟩
  · exact ⟨_, cap, rfl⟩
section
variable {W w w' : World} {ta ma : Nat} {bsA : List (Int × Nat)} {m : T} {v : Value} {bl : List (Int × Int)} {dl : List El}
theorem Began.below (h : Began W w v bl) (hb : Below w.heap.size w w') : Began W w' v bl := own_move h (fun k hk => by obtain ⟨cells, hc⟩ := own_typed h k hk; exact hb.block k (blk_lt hc))
theorem Dones.below (h : Dones W w v dl) (hb : Below w.heap.size w w') : Dones W w' v dl := ⟨own_move h.1 (fun k hk => by obtain ⟨cells, hc⟩ := own_typed h.1 k hk; exact hb.block k (blk_lt hc)), fun x hx => (h.2 x hx).below hb⟩
theorem Began.fr (h : Began W w v bl) (hT : TabIs W.heap.size w ta ma bsA m) (hF : Fr w w' (fp ta ma bsA)) : Began W w' v bl := own_move h (fun k hk => by
  obtain ⟨cells, hc⟩ := own_typed h k hk
  exact hF.block k (blk_lt hc) (hT.not_step hc (by decide) (by decide)))
theorem Dones.fr (h : Dones W w v dl) (hT : TabIs W.heap.size w ta ma bsA m) (hF : Fr w w' (fp ta ma bsA)) : Dones W w' v dl := ⟨own_move h.1 (fun k hk => by
  obtain ⟨cells, hc⟩ := own_typed h.1 k hk
  exact hF.block k (blk_lt hc) (hT.not_step hc (by decide) (by decide))), fun x hx => two_names hT hF (h.2 x hx)⟩
theorem St.below {i : Nat} {v4 v5 : Value} (h : St W w ta i v4 v5) (hb : Below w.heap.size w w') : St W w' ta i v4 v5 := by
  obtain ⟨ma, bsA, m, bl, dl, h1, h2, h3, h4, h5⟩ := h
  exact ⟨ma, bsA, m, bl, dl, h1.below hb, h2.trans (hb.mono h2.size), h3.below hb, h4.below hb, h5⟩
/-- The row grew: all but its own block is as it was. -/
theorem tab_grown {w1 : World} {row : Option Nat} (h : TabIs W.heap.size w ta ma bsA m) (hg : w.grownBy w1 row) (hr : ∀ k, row = some k → ∃ cells t, w.heap[k]? = some (.cells cells t (0, 0)) ∧ t ≠ 60 ∧ t ≠ 64 ∧ t ≠ 9 ∧ W.heap.size ≤ k) : TabIs W.heap.size w1 ta ma bsA m :=
  h.step (fun k hk hlt => hg.block k hlt (fun e => by
    obtain ⟨cells, t, h1, h2, h3, _⟩ := hr k e.symm
    exact h.not_step h1 h2 h3 hk)) (fun k hk hlt => hg.block k hlt (fun e => by
    obtain ⟨cells, t, h1, _, _, h4, h5⟩ := hr k e.symm
    rcases hk with hk | ⟨cells', hk⟩
    · omega
    · rw [h1] at hk; simp at hk; exact h4 hk.2))
end
theorem cells_new (w : World) (cs : Array Value) (t : TypeId) : ∀ (j : Nat) (u : Value), cs.toList[j]? = some u → (w.alloc (.cells cs t)).cell? ((⟨w.heap.size, 0, none⟩ : Addr).add j) = some u := by
  intro j u h
  rw [Addr.add_lit, Nat.zero_add, blk_cell (blk_new w _) j]
  simpa using h
theorem began_at {W w : World} {A : Option Addr} {n c : Nat} {bl : List (Int × Int)} (h : Began W w (.slice A n c) bl) {j : Nat} {x : Int × Int} (hx : bl[j]? = some x) :
    ∃ g, A = some ⟨g, 0, none⟩ ∧ w.cell? ⟨g, j * 2, none⟩ = some (.int .i64 x.1) ∧ w.cell? ⟨g, j * 2 + 1, none⟩ = some (.int .i64 x.2) := by
  have f0 : (flatO bl)[j * 2 + 0]? = some (.int .i64 x.1) := flat_at cellsO 2 (fun y => rfl) bl j 0 x hx (by decide)
  have f1 : (flatO bl)[j * 2 + 1]? = some (.int .i64 x.2) := flat_at cellsO 2 (fun y => rfl) bl j 1 x hx (by decide)
  obtain ⟨g, cap, he, hc⟩ := own_cell h f0
  obtain ⟨g', cap', he', hc'⟩ := own_cell h f1
  have hA : A = some ⟨g, 0, none⟩ := by simp at he; exact he.1
  have : g' = g := by rw [hA] at he'; simp at he'; exact he'.1.symm
  subst this
  exact ⟨g', hA, hc, hc'⟩
theorem info40 : ∃ i0, Try.prog.info? 40 = some i0 ∧ i0.zero = some (.agg #[.int .i64 0, .int .i64 0]) ∧ i0.size = 2 ∧ i0.bytes = 16 := by
  have h : (Try.prog.info? 40).map (fun i => (i.zero, i.size, i.bytes)) = some (some (.agg #[.int .i64 0, .int .i64 0]), 2, 16) := by kernel_rfl
  obtain ⟨i0, hi, h2⟩ := Option.map_eq_some_iff.1 h
  simp only [Prod.mk.injEq] at h2
  exact ⟨i0, hi, h2.1, h2.2.1, h2.2.2⟩
theorem info31 : ∃ i0, Try.prog.info? 31 = some i0 ∧ i0.zero = some (.agg #[.int .i64 0, .int .i64 0, .int .i64 0, .int .i64 0, .string ByteArray.empty, .int .i64 0, .int .i64 0, .int .i64 0, .slice none 0 0]) ∧ i0.size = 9 ∧ i0.bytes = 96 := by
  have h : (Try.prog.info? 31).map (fun i => (i.zero, i.size, i.bytes)) = some (some (.agg #[.int .i64 0, .int .i64 0, .int .i64 0, .int .i64 0, .string ByteArray.empty, .int .i64 0, .int .i64 0, .int .i64 0, .slice none 0 0]), 9, 96) := by kernel_rfl
  obtain ⟨i0, hi, h2⟩ := Option.map_eq_some_iff.1 h
  simp only [Prod.mk.injEq] at h2
  exact ⟨i0, hi, h2.1, h2.2.1, h2.2.2⟩
theorem done_at {W w : World} {A : Option Addr} {n c : Nat} {dl : List El} (h : Dones W w (.slice A n c) dl) {j : Nat} {x : El} (hx : dl[j]? = some x) :
    ∃ g, A = some ⟨g, 0, none⟩ ∧ ∀ q u, (sobj x.s x.A x.c)[q]? = some u → w.cell? ⟨g, j * 9 + q, none⟩ = some u := by
  have each : ∀ q u, (sobj x.s x.A x.c)[q]? = some u → ∃ g cap, Value.slice A n c = .slice (some ⟨g, 0, none⟩) dl.length cap ∧ w.cell? ⟨g, j * 9 + q, none⟩ = some u := fun q u hq => by
    have hlt : q < 9 := by have := (Array.getElem?_eq_some_iff.1 hq).1; simpa [sobj] using this
    have hf : (flatS dl)[j * 9 + q]? = some u := by
      unfold flatS
      rw [flat_at cellsS 9 (fun y => by simp [cellsS, sobj]) dl j q x hx hlt]
      unfold cellsS
      rw [Array.getElem?_toList]
      exact hq
    exact own_cell h.1 hf
  obtain ⟨g, cap, he, _⟩ := each 0 _ rfl
  have hA : A = some ⟨g, 0, none⟩ := by simp at he; exact he.1
  refine ⟨g, hA, fun q u hq => ?_⟩
  obtain ⟨g', cap', he', hc⟩ := each q u hq
  have : g' = g := by rw [hA] at he'; simp at he'; exact he'.1.symm
  rw [← this]
  exact hc
section
variable {W w w1 : World} {ta ma n size : Nat} {bsA : List (Int × Nat)} {m : T} {v v4 v5 : Value} {bl : List (Int × Int)} {dl : List El} {t : TypeId} {xs : List Value}
theorem row_fact (hv : w.ownsRow W.heap.size t size v n xs) (h1 : t ≠ 60) (h2 : t ≠ 64) (h3 : t ≠ 9) : ∀ k, v.ownBlock = some k → ∃ cells t', w.heap[k]? = some (.cells cells t' (0, 0)) ∧ t' ≠ 60 ∧ t' ≠ 64 ∧ t' ≠ 9 ∧ W.heap.size ≤ k := fun k hk => by
  obtain ⟨cells, hc⟩ := own_typed hv k hk
  exact ⟨cells, t, hc, h1, h2, h3, own_base hv k hk⟩
theorem other_row {e s2 n2 : Nat} {v2 : Value} {ys : List Value} (h : w.ownsRow W.heap.size e s2 v2 n2 ys) (hg : w.grownBy w1 v.ownBlock) (hv : w.ownsRow W.heap.size t size v n xs) (hne : e ≠ t) : w1.ownsRow W.heap.size e s2 v2 n2 ys :=
  own_move h (fun k hk => by
    obtain ⟨cells, hc⟩ := own_typed h k hk
    refine hg.block k (blk_lt hc) (fun q => ?_)
    obtain ⟨cells', hc'⟩ := own_typed hv k q.symm
    rw [hc] at hc'
    simp at hc'
    exact hne hc'.2)
theorem names_grown {A : Option Addr} {n2 : List ByteArray} {c : Nat} (h : Names W.heap.size w A n2 c) (hg : w.grownBy w1 v.ownBlock) (hv : w.ownsRow W.heap.size t size v n xs) (h3 : t ≠ 9) : Names W.heap.size w1 A n2 c :=
  h.step (fun k hk hlt => hg.block k hlt (fun q => by
    obtain ⟨cells', hc'⟩ := own_typed hv k q.symm
    have hb := own_base hv k q.symm
    rcases hk with hk | ⟨cells, hc⟩
    · omega
    · rw [hc] at hc'; simp at hc'; exact h3 hc'.2.symm))
theorem below_grown (h : Below W.heap.size W w) (hg : w.grownBy w1 v.ownBlock) (hv : w.ownsRow W.heap.size t size v n xs) : Below W.heap.size W w1 := h.grown hg h.size (own_base hv)
end
theorem St.base {i : Nat} {v4 v5 : Value} {W w : World} {ta : Nat} (h : St W w ta i v4 v5) : Below W.heap.size W w := by obtain ⟨_, _, _, _, _, _, h2, _⟩ := h; exact h2
set_option maxHeartbeats 16000000 in
set_option maxRecDepth 100000 in
theorem once_short (W : World) (A : Option Addr) (c : Nat) (l : List Step) (hl : l.length ≤ c) (hC : Kd.C stepK W A l.length l) (hg : ∀ s ∈ l, goodStep s) (hn : l.length ≤ 300) :
    Calls Try.prog 4 #[.slice A l.length c] W fun e W' => e = .returned (.bool true) ∧ Below W.heap.size W W' := by
  have hut := Try.underlying23
  have hus := Try.underlying31
  have huo := Try.underlying40
  have hur := Try.underlying29
  have hue := Try.underlying26
  have HC := Aside0.mk hC
  have HG := Aside0.mk hg
  have b1 : decide (300 < (l.length : Int)) = false := decide_eq_false (by omega)
  clear hC hg
  go_enter Try.func4, Try.ntmps4
  go_wp2_with fail
  refine (new_calls W.heap.size W (Nat.le_refl _)).mono ?_
  rintro e w1 ⟨ta, ma, rfl, hT, hb, h1, h2⟩
  have HT : Aside0 (St W w1 ta 0 (.slice none 0 0) (.slice none 0 0)) := ⟨ma, [], [], [], [], hT, hb, ⟨rfl, .inl ⟨rfl, rfl⟩⟩, ⟨⟨rfl, .inl ⟨rfl, rfl⟩⟩, fun x hx => by simp at hx⟩, ⟨fun b hb => by simp at hb, fun x hx => by simp at hx⟩, Nat.le_refl _, Nat.le_refl _⟩
  clear hT hb h1 h2
  unfold ptr
  go_wp2_with fail
  go_loopw [4, 5, 34] (fun v4 v5 c wr => ∃ i : Nat, i ≤ l.length ∧ c = .int .i64 i ∧ Aside0 (St W wr ta i v4 v5)) (fun _ _ c _ => l.length - (intOf c).toNat)
  case atStart => exact ⟨0, by omega, rfl, HT⟩
  case round =>
    obtain ⟨i, hi, rfl, H⟩ := hrel
    clear HT
    by_cases hlt : i < l.length
    · obtain ⟨ad, A', c', rfl, hcell, hnm⟩ := step_at HC.out HG.out i hlt
      have hBW : Below W.heap.size W wr := H.out.base
      generalize l[i] = s at hcell hnm
      have hold : ∀ j u, (sobj s A' c')[j]? = some u → wr.cell? (ad.add (i * 9 + j)) = some u := fun j u hu => by
        have hW := hcell j u hu
        rw [← hW]
        exact World.cell?_of_block (hBW.block _ (World.block_lt_of_cell? W _ hW))
      have hx := cell_sub wr ad (i * 9)
      have e0 : wr.cell? (ad.add (i * 9)) = some (.int .i64 s.kind) := hold 0 _ rfl
      have e1 : wr.cell? ⟨(ad.add (i * 9)).block, (ad.add (i * 9)).off + 1, none⟩ = some (.int .i64 s.client) := (hx 1 (by decide)).trans (hold 1 _ rfl)
      have e2 : wr.cell? ⟨(ad.add (i * 9)).block, (ad.add (i * 9)).off + 2, none⟩ = some (.int .i64 s.req) := (hx 2 (by decide)).trans (hold 2 _ rfl)
      have e3 : wr.cell? ⟨(ad.add (i * 9)).block, (ad.add (i * 9)).off + 3, none⟩ = some (.int .i64 s.r.e) := (hx 3 (by decide)).trans (hold 3 _ rfl)
      have e4 : wr.cell? ⟨(ad.add (i * 9)).block, (ad.add (i * 9)).off + 4, none⟩ = some (.string s.r.d) := (hx 4 (by decide)).trans (hold 4 _ rfl)
      have e5 : wr.cell? ⟨(ad.add (i * 9)).block, (ad.add (i * 9)).off + 5, none⟩ = some (.int .i64 s.r.k) := (hx 5 (by decide)).trans (hold 5 _ rfl)
      have e6 : wr.cell? ⟨(ad.add (i * 9)).block, (ad.add (i * 9)).off + 6, none⟩ = some (.int .i64 s.r.l) := (hx 6 (by decide)).trans (hold 6 _ rfl)
      have e7 : wr.cell? ⟨(ad.add (i * 9)).block, (ad.add (i * 9)).off + 7, none⟩ = some (.int .i64 s.r.s) := (hx 7 (by decide)).trans (hold 7 _ rfl)
      have e8 : wr.cell? ⟨(ad.add (i * 9)).block, (ad.add (i * 9)).off + 8, none⟩ = some (.slice A' s.r.n.length c') := (hx 8 (by decide)).trans (hold 8 _ rfl)
      have HN := Aside0.mk ((hnm.step (w' := wr) (fun k hk hlt' => hBW.block k hlt')).below (below_alloc (Below.refl _ wr) (.cells (sobj s A' c') 31)))
      have P := Aside0.mk (blk_new wr (.cells (sobj s A' c') 31))
      have H0 := Aside0.mk (H.out.below (below_alloc (Below.refl _ wr) (.cells (sobj s A' c') 31)))
      clear hcell hold hnm hBW hx H
      have hb1 : decide ((i : Int) < (l.length : Int)) = true := decide_eq_true (by omega)
      by_cases k0 : s.kind = 0
      · have q0 : (s.kind == 0) = true := by simpa using k0
        clear k0
        obtain ⟨ma, bsA, m, bl, dl, h1, h2, h3, h4, h5, h6, h7⟩ := H0.out
        obtain ⟨A4, c4, rfl⟩ := own_slice h3
        have D1 := Aside0.mk h1
        have D2 := Aside0.mk h2
        have D3 := Aside0.mk h3
        have D4 := Aside0.mk h4
        have D5 := Aside0.mk h5
        have hbl : bl.length ≤ 300 := by omega
        clear h1 h2 h3 h4 h5
        go_wp2_with fail
        refine (begin_calls (c := s.client) (r := s.req) D1.out D2.out.size).mono ?_
        rintro e wj ⟨bs1, rfl, hT, hF, hp⟩
        have HB := Aside0.mk (hF.below D2.out (fun k hk => D1.out.base hk) D2.out.size)
        have PP := Aside0.mk (two_keep D1.out hF P.out (by decide) (by decide))
        have G3 := Aside0.mk (D3.out.fr D1.out hF)
        have G4 := Aside0.mk (D4.out.fr D1.out hF)
        have HT1 := Aside0.mk hT
        clear hT hF hp
        by_cases hy : (tBegin m s.client s.req).2 = 0
        · have I5 := Aside0.mk (D5.out.begun hy)
          rw [hy]
          have hc1 := (blk_cell PP.out 1).trans rfl
          have hc2 := (blk_cell PP.out 2).trans rfl
          simp only [sobj] at hc1 hc2
          clear hy P HN H0 D1 D2 D3 D4 D5 e0 e1 e2 e3 e4 e5 e6 e7 e8
          go_wp2_with fail
          go_loopw [52] (fun c wr => ∃ j : Nat, j ≤ bl.length ∧ c = .int .i64 j ∧ Aside0 (Below wj.heap.size wj wr)) (fun c _ => bl.length - (intOf c).toNat)
          case atStart => exact ⟨0, by omega, rfl, ⟨Below.refl _ _⟩⟩
          case round =>
            obtain ⟨j, hj, rfl, HL⟩ := hrel
            clear hc1 hc2
            by_cases hjl : j < bl.length
            · obtain ⟨b, hbx⟩ : ∃ b, bl[j]? = some b := ⟨_, List.getElem?_eq_getElem hjl⟩
              obtain ⟨g, rfl, x0, x1⟩ := began_at (G3.out.below HL.out) hbx
              have hbm := List.mem_of_getElem? hbx
              have hj1 : decide ((j : Int) < (bl.length : Int)) = true := decide_eq_true (by omega)
              have sc1 := (blk_cell (blk_alloc (blk_below PP.out HL.out) (.cells #[.int .i64 b.1, .int .i64 b.2] 40)) 1).trans rfl
              have sc2 := (blk_cell (blk_alloc (blk_below PP.out HL.out) (.cells #[.int .i64 b.1, .int .i64 b.2] 40)) 2).trans rfl
              simp only [sobj] at sc1 sc2
              have HL2 := Aside0.mk (HL.out.trans ((below_alloc (Below.refl _ wr) (.cells #[.int .i64 b.1, .int .i64 b.2] 40)).mono HL.out.size))
              clear hbx
              by_cases e : b.1 = s.client
              · have r1 : (b.1 == s.client) = true := by simpa using e
                have r2 : decide (s.req ≤ b.2) = false := decide_eq_false (by have := I5.out.1 b hbm e; omega)
                clear e
                go_wp2_with fail
                go_roundw
                case rel => exact ⟨j + 1, by omega, by go_num, HL2⟩
                case measure => simp [intOf]; omega
              · have r1 : (b.1 == s.client) = false := by simpa using e
                clear e
                go_wp2_with fail
                go_roundw
                case rel => exact ⟨j + 1, by omega, by go_num, HL2⟩
                case measure => simp [intOf]; omega
            · obtain rfl : j = bl.length := by omega
              have sc1 := (blk_cell (blk_below PP.out HL.out) 1).trans rfl
              have sc2 := (blk_cell (blk_below PP.out HL.out) 2).trans rfl
              simp only [sobj] at sc1 sc2
              obtain ⟨i0, hi0, hz0, hz1, hz2⟩ := info40
              have O3 := Aside0.mk ((G3.out.below HL.out : wr.ownsRow W.heap.size 40 2 _ _ _).alloc (.cells #[.int .i64 s.client, .int .i64 s.req] 40))
              go_wp2_with (at_builtin; refine wpList_append_own _ rfl _ _ 38 rfl W.heap.size 40 i0 (.agg #[.int .i64 0, .int .i64 0]) 2 16 Try.underlying38 hi0 hz0 hz1 hz2 rfl (by decide) _ _ _ rfl O3.out ⟨wr.heap.size, 0, none⟩ 1 1 [.int .i64 s.client, .int .i64 s.req] rfl rfl (cells_new wr #[.int .i64 s.client, .int .i64 s.req] _) (by simp [Value.oneCell']) (by unfold maxLen; omega) (by omega) (by have := HB.out.size; have := HL.out.size; simp; omega) ?_)
              intro v1 w1 hown hgrow hnil
              have T1 := Aside0.mk (tab_grown ((HT1.out.below HL.out).below (below_alloc (Below.refl _ wr) (.cells #[.int .i64 s.client, .int .i64 s.req] 40))) hgrow (row_fact O3.out (by decide) (by decide) (by decide)))
              have T2 := Aside0.mk (below_grown ((HB.out.trans (HL.out.mono HB.out.size)).alloc (Nat.le_trans HB.out.size HL.out.size) (.cells #[.int .i64 s.client, .int .i64 s.req] 40)) hgrow O3.out)
              have G5 := (G4.out.below HL.out).below (below_alloc (Below.refl _ wr) (.cells #[.int .i64 s.client, .int .i64 s.req] 40))
              have T4 : Aside0 (Dones W w1 u5 dl) := ⟨other_row G5.1 hgrow O3.out (by decide), fun x hx => names_grown (G5.2 x hx) hgrow O3.out (by decide)⟩
              have T3 : Aside0 (Began W w1 v1 (bl ++ [(s.client, s.req)])) := ⟨by unfold Began flatO; rw [List.flatMap_append, List.length_append]; exact hown⟩
              have HS : Aside0 (St W w1 ta (i + 1) v1 u5) := ⟨ma, bs1, _, bl ++ [(s.client, s.req)], dl, T1.out, T2.out, T3.out, T4.out, I5.out.2, by simp; omega, by omega⟩
              clear hown hgrow hnil G5 sc1 sc2 hi0 hz0 hz1 hz2 O3 T1 T2 T3 T4 HL I5 G3 G4 HB PP HT1
              obtain ⟨ma, bsA, m, bl, dl, h1, h2, h3, h4, h5, h6, h7⟩ := HS.out
              obtain ⟨A5, c5, rfl⟩ := own_slice h4.1
              have D1 := Aside0.mk h1
              have D2 := Aside0.mk h2
              have D4 := Aside0.mk h4
              have D5 := Aside0.mk h5
              have H9 : Aside0 (St W w1 ta (i + 1) v1 (.slice A5 dl.length c5)) := ⟨ma, bsA, m, bl, dl, h1, h2, h3, h4, h5, by omega, by omega⟩
              have hdl : dl.length ≤ 300 := by omega
              clear h1 h2 h3 h4 h5 h6 h7
              go_wp2_with fail
              go_loopw [113] (fun c wr => ∃ j : Nat, j ≤ dl.length ∧ c = .int .i64 j ∧ Aside0 (Below w1.heap.size w1 wr)) (fun c _ => dl.length - (intOf c).toNat)
              case atStart => exact ⟨0, by omega, rfl, ⟨Below.refl _ _⟩⟩
              case round =>
                obtain ⟨j, hj, rfl, HB⟩ := hrel
                by_cases hjl : j < dl.length
                · obtain ⟨x, hxl⟩ : ∃ x, dl[j]? = some x := ⟨_, List.getElem?_eq_getElem hjl⟩
                  obtain ⟨g, rfl, hcl⟩ := done_at (D4.out.below HB.out) hxl
                  have hxm : x ∈ dl := List.mem_of_getElem? hxl
                  have NX := Aside0.mk ((D4.out.2 x hxm).below HB.out)
                  have hj1 : decide ((j : Int) < (dl.length : Int)) = true := decide_eq_true (by omega)
                  have x0 : wr.cell? ⟨g, j * 9, none⟩ = some (.int .i64 x.s.kind) := hcl 0 _ rfl
                  have x1 : wr.cell? ⟨g, j * 9 + 1, none⟩ = some (.int .i64 x.s.client) := hcl 1 _ rfl
                  have x2 : wr.cell? ⟨g, j * 9 + 2, none⟩ = some (.int .i64 x.s.req) := hcl 2 _ rfl
                  have x3 : wr.cell? ⟨g, j * 9 + 3, none⟩ = some (.int .i64 x.s.r.e) := hcl 3 _ rfl
                  have x4 : wr.cell? ⟨g, j * 9 + 4, none⟩ = some (.string x.s.r.d) := hcl 4 _ rfl
                  have x5 : wr.cell? ⟨g, j * 9 + 5, none⟩ = some (.int .i64 x.s.r.k) := hcl 5 _ rfl
                  have x6 : wr.cell? ⟨g, j * 9 + 6, none⟩ = some (.int .i64 x.s.r.l) := hcl 6 _ rfl
                  have x7 : wr.cell? ⟨g, j * 9 + 7, none⟩ = some (.int .i64 x.s.r.s) := hcl 7 _ rfl
                  have x8 : wr.cell? ⟨g, j * 9 + 8, none⟩ = some (.slice x.A x.s.r.n.length x.c) := hcl 8 _ rfl
                  clear hcl
                  have CL : ∀ w', Below wr.heap.size wr w' → Calls Try.prog 13 #[ptr ta, .int .i64 x.s.client] w' fun e w'' => e = .returned (.tuple #[.int .i64 (last m x.s.client).1, .bool (last m x.s.client).2]) ∧ w'' = w' := fun w' hb => last_calls ((D1.out.below HB.out).below hb)
                  have CA : ∀ w', Below wr.heap.size wr w' → Calls Try.prog 11 #[ptr ta, .int .i64 x.s.client, .int .i64 x.s.req] w' (AskPost W.heap.size w' (tAsk m x.s.client x.s.req)) := fun w' hb => ask_calls ((D1.out.below HB.out).below hb) (Nat.le_trans D2.out.size (Nat.le_trans HB.out.size hb.size))
                  have KL := Aside0.mk CL
                  have KA := Aside0.mk CA
                  have hT := D5.out.tells x hxm
                  clear CL CA
                  unfold ptr at KL KA
                  generalize (last m x.s.client).2 = okb at KL
                  generalize (last m x.s.client).1 = nl at KL hT
                  have hk9 := below_alloc (Below.refl wr.heap.size wr) (.cells #[.int .i64 x.s.kind, .int .i64 x.s.client, .int .i64 x.s.req, .int .i64 x.s.r.e, .string x.s.r.d, .int .i64 x.s.r.k, .int .i64 x.s.r.l, .int .i64 x.s.r.s, .slice x.A x.s.r.n.length x.c] 31)
                  rcases hT with ⟨hnl, hask⟩ | ⟨hnl, hask⟩
                  · rw [hask] at KA
                    have r1 : (nl == x.s.req) = true := by simpa using hnl
                    have r2 : (nl != x.s.req) = false := by simpa using hnl
                    have HK := Aside0.mk hk9
                    clear hnl hask hk9
                    go_wp2_with fail
                    refine (KL.out _ HK.out).mono ?_
                    rintro e w7 ⟨rfl, rfl⟩
                    go_wp2_with fail
                    refine (KA.out _ HK.out).mono ?_
                    rintro e w8 ⟨A8, c8, rfl, hn8, hb8⟩
                    dsimp only at hn8 ⊢
                    unfold vres
                    have B8 := Aside0.mk (HK.out.trans ((below_alloc hb8 (robj x.s.r A8 c8)).mono HK.out.size))
                    have N8 := Aside0.mk (hn8.below (below_alloc (Below.refl _ w8) (robj x.s.r A8 c8)))
                    have P8 := blk_below (blk_new wr (.cells #[.int .i64 x.s.kind, .int .i64 x.s.client, .int .i64 x.s.req, .int .i64 x.s.r.e, .string x.s.r.d, .int .i64 x.s.r.k, .int .i64 x.s.r.l, .int .i64 x.s.r.s, .slice x.A x.s.r.n.length x.c] 31)) (below_alloc hb8 (robj x.s.r A8 c8))
                    have y2 := (blk_cell P8 2).trans rfl
                    have y3 := (blk_cell P8 3).trans rfl
                    have y4 := (blk_cell P8 4).trans rfl
                    have y5 := (blk_cell P8 5).trans rfl
                    have y6 := (blk_cell P8 6).trans rfl
                    have y7 := (blk_cell P8 7).trans rfl
                    have y8 := (blk_cell P8 8).trans rfl
                    have Q8 := Aside0.mk P8
                    clear hn8 hb8 P8
                    go_wp2_with fail
                    refine (result_calls (a := x.s.r) (b := x.s.r) N8.out (NX.out.below B8.out)).mono ?_
                    rintro e w9 ⟨rfl, hb9⟩
                    rw [(sameRes_iff x.s.r x.s.r).2 rfl]
                    have B9 := Aside0.mk (HB.out.trans ((B8.out.trans (hb9.mono B8.out.size)).mono HB.out.size))
                    clear y2 y3 y4 y5 y6 y7 y8
                    have y2 := (blk_cell (blk_below Q8.out hb9) 2).trans rfl
                    clear hb9
                    go_wp2_with fail
                    go_roundw
                    case rel => exact ⟨j + 1, by omega, by go_num, B9⟩
                    case measure => simp [intOf]; omega
                  · rw [hask] at KA
                    have r1 : (nl == x.s.req) = false := by simpa using hnl
                    have r2 : (nl != x.s.req) = true := by simpa using hnl
                    have HK := Aside0.mk hk9
                    clear hnl hask hk9
                    go_wp2_with fail
                    refine (KL.out _ HK.out).mono ?_
                    rintro e w7 ⟨rfl, rfl⟩
                    go_wp2_with fail
                    refine (KA.out _ HK.out).mono ?_
                    rintro e w8 ⟨A8, c8, rfl, hn8, hb8⟩
                    dsimp only at hn8 ⊢
                    unfold vres
                    have B8 := Aside0.mk (HK.out.trans ((below_alloc hb8 (robj zero A8 c8)).mono HK.out.size))
                    have B9 := Aside0.mk (HB.out.trans (B8.out.mono HB.out.size))
                    have P8 := blk_below (blk_new wr (.cells #[.int .i64 x.s.kind, .int .i64 x.s.client, .int .i64 x.s.req, .int .i64 x.s.r.e, .string x.s.r.d, .int .i64 x.s.r.k, .int .i64 x.s.r.l, .int .i64 x.s.r.s, .slice x.A x.s.r.n.length x.c] 31)) (below_alloc hb8 (robj zero A8 c8))
                    have y2 := (blk_cell P8 2).trans rfl
                    clear hn8 hb8 P8
                    go_wp2_with fail
                    go_roundw
                    case rel => exact ⟨j + 1, by omega, by go_num, B9⟩
                    case measure => simp [intOf]; omega
                · obtain rfl : j = dl.length := by omega
                  have H10 := Aside0.mk (H9.out.below HB.out)
                  go_wp2_with fail
                  go_roundw
                  case rel => exact ⟨i + 1, by omega, by go_num, H10⟩
                  case measure => simp [intOf]; omega
        · have I5 := begin_err_same hy
          have H9 : Aside0 (St W wj ta (i + 1) (.slice A4 bl.length c4) u5) := ⟨ma, bs1, m, bl, dl, I5 ▸ HT1.out, HB.out, G3.out, G4.out, D5.out, by omega, by omega⟩
          have r1 : ((tBegin m s.client s.req).2 != 0) = true := by simpa using hy
          generalize (tBegin m s.client s.req).2 = y at r1 ⊢
          clear hy I5
          go_wp2_with fail
          go_roundw
          case rel => exact ⟨i + 1, by omega, by go_num, H9⟩
          case measure => simp [intOf]; omega
      have q0 : (s.kind == 0) = false := by simpa using k0
      clear k0
      by_cases k1 : s.kind = 1
      · have q1 : (s.kind == 1) = true := by simpa using k1
        clear k1
        obtain ⟨ma, bsA, m, bl, dl, h1, h2, h3, h4, h5, h6, h7⟩ := H0.out
        obtain ⟨A4, c4, rfl⟩ := own_slice h3
        have D1 := Aside0.mk h1
        have D2 := Aside0.mk h2
        have D3 := Aside0.mk h3
        have D4 := Aside0.mk h4
        have D5 := Aside0.mk h5
        have hbl : bl.length ≤ 300 := by omega
        clear h1 h2 h3 h4 h5
        go_wp2_with fail
        refine (begin_calls (c := s.client) (r := s.req) D1.out D2.out.size).mono ?_
        rintro e wj ⟨bs1, rfl, hT, hF, hp⟩
        have HB := Aside0.mk (hF.below D2.out (fun k hk => D1.out.base hk) D2.out.size)
        have PP := Aside0.mk (two_keep D1.out hF P.out (by decide) (by decide))
        have G3 := Aside0.mk (D3.out.fr D1.out hF)
        have G4 := Aside0.mk (D4.out.fr D1.out hF)
        have HT1 := Aside0.mk hT
        clear hT hF hp
        by_cases hy : (tBegin m s.client s.req).2 = 0
        · have I5 := Aside0.mk (D5.out.begun hy)
          rw [hy]
          have hc1 := (blk_cell PP.out 1).trans rfl
          have hc2 := (blk_cell PP.out 2).trans rfl
          simp only [sobj] at hc1 hc2
          clear hy P HN H0 D1 D2 D3 D4 D5 e0 e1 e2 e3 e4 e5 e6 e7 e8
          go_wp2_with fail
          go_loopw [52] (fun c wr => ∃ j : Nat, j ≤ bl.length ∧ c = .int .i64 j ∧ Aside0 (Below wj.heap.size wj wr)) (fun c _ => bl.length - (intOf c).toNat)
          case atStart => exact ⟨0, by omega, rfl, ⟨Below.refl _ _⟩⟩
          case round =>
            obtain ⟨j, hj, rfl, HL⟩ := hrel
            clear hc1 hc2
            by_cases hjl : j < bl.length
            · obtain ⟨b, hbx⟩ : ∃ b, bl[j]? = some b := ⟨_, List.getElem?_eq_getElem hjl⟩
              obtain ⟨g, rfl, x0, x1⟩ := began_at (G3.out.below HL.out) hbx
              have hbm := List.mem_of_getElem? hbx
              have hj1 : decide ((j : Int) < (bl.length : Int)) = true := decide_eq_true (by omega)
              have sc1 := (blk_cell (blk_alloc (blk_below PP.out HL.out) (.cells #[.int .i64 b.1, .int .i64 b.2] 40)) 1).trans rfl
              have sc2 := (blk_cell (blk_alloc (blk_below PP.out HL.out) (.cells #[.int .i64 b.1, .int .i64 b.2] 40)) 2).trans rfl
              simp only [sobj] at sc1 sc2
              have HL2 := Aside0.mk (HL.out.trans ((below_alloc (Below.refl _ wr) (.cells #[.int .i64 b.1, .int .i64 b.2] 40)).mono HL.out.size))
              clear hbx
              by_cases e : b.1 = s.client
              · have r1 : (b.1 == s.client) = true := by simpa using e
                have r2 : decide (s.req ≤ b.2) = false := decide_eq_false (by have := I5.out.1 b hbm e; omega)
                clear e
                go_wp2_with fail
                go_roundw
                case rel => exact ⟨j + 1, by omega, by go_num, HL2⟩
                case measure => simp [intOf]; omega
              · have r1 : (b.1 == s.client) = false := by simpa using e
                clear e
                go_wp2_with fail
                go_roundw
                case rel => exact ⟨j + 1, by omega, by go_num, HL2⟩
                case measure => simp [intOf]; omega
            · obtain rfl : j = bl.length := by omega
              have sc1 := (blk_cell (blk_below PP.out HL.out) 1).trans rfl
              have sc2 := (blk_cell (blk_below PP.out HL.out) 2).trans rfl
              simp only [sobj] at sc1 sc2
              obtain ⟨i0, hi0, hz0, hz1, hz2⟩ := info40
              have O3 := Aside0.mk ((G3.out.below HL.out : wr.ownsRow W.heap.size 40 2 _ _ _).alloc (.cells #[.int .i64 s.client, .int .i64 s.req] 40))
              go_wp2_with (at_builtin; refine wpList_append_own _ rfl _ _ 38 rfl W.heap.size 40 i0 (.agg #[.int .i64 0, .int .i64 0]) 2 16 Try.underlying38 hi0 hz0 hz1 hz2 rfl (by decide) _ _ _ rfl O3.out ⟨wr.heap.size, 0, none⟩ 1 1 [.int .i64 s.client, .int .i64 s.req] rfl rfl (cells_new wr #[.int .i64 s.client, .int .i64 s.req] _) (by simp [Value.oneCell']) (by unfold maxLen; omega) (by omega) (by have := HB.out.size; have := HL.out.size; simp; omega) ?_)
              intro v1 w1 hown hgrow hnil
              have T1 := Aside0.mk (tab_grown ((HT1.out.below HL.out).below (below_alloc (Below.refl _ wr) (.cells #[.int .i64 s.client, .int .i64 s.req] 40))) hgrow (row_fact O3.out (by decide) (by decide) (by decide)))
              have T2 := Aside0.mk (below_grown ((HB.out.trans (HL.out.mono HB.out.size)).alloc (Nat.le_trans HB.out.size HL.out.size) (.cells #[.int .i64 s.client, .int .i64 s.req] 40)) hgrow O3.out)
              have G5 := (G4.out.below HL.out).below (below_alloc (Below.refl _ wr) (.cells #[.int .i64 s.client, .int .i64 s.req] 40))
              have T4 : Aside0 (Dones W w1 u5 dl) := ⟨other_row G5.1 hgrow O3.out (by decide), fun x hx => names_grown (G5.2 x hx) hgrow O3.out (by decide)⟩
              have T3 : Aside0 (Began W w1 v1 (bl ++ [(s.client, s.req)])) := ⟨by unfold Began flatO; rw [List.flatMap_append, List.length_append]; exact hown⟩
              have HS : Aside0 (St W w1 ta (i + 1) v1 u5) := ⟨ma, bs1, _, bl ++ [(s.client, s.req)], dl, T1.out, T2.out, T3.out, T4.out, I5.out.2, by simp; omega, by omega⟩
              clear hown hgrow hnil G5 sc1 sc2 hi0 hz0 hz1 hz2 O3 T1 T2 T3 T4 HL I5 G3 G4 HB PP HT1
              obtain ⟨ma, bsA, m, bl, dl, h1, h2, h3, h4, h5, h6, h7⟩ := HS.out
              obtain ⟨A5, c5, rfl⟩ := own_slice h4.1
              have D1 := Aside0.mk h1
              have D2 := Aside0.mk h2
              have D4 := Aside0.mk h4
              have D5 := Aside0.mk h5
              have H9 : Aside0 (St W w1 ta (i + 1) v1 (.slice A5 dl.length c5)) := ⟨ma, bsA, m, bl, dl, h1, h2, h3, h4, h5, by omega, by omega⟩
              have hdl : dl.length ≤ 300 := by omega
              clear h1 h2 h3 h4 h5 h6 h7
              go_wp2_with fail
              go_loopw [113] (fun c wr => ∃ j : Nat, j ≤ dl.length ∧ c = .int .i64 j ∧ Aside0 (Below w1.heap.size w1 wr)) (fun c _ => dl.length - (intOf c).toNat)
              case atStart => exact ⟨0, by omega, rfl, ⟨Below.refl _ _⟩⟩
              case round =>
                obtain ⟨j, hj, rfl, HB⟩ := hrel
                by_cases hjl : j < dl.length
                · obtain ⟨x, hxl⟩ : ∃ x, dl[j]? = some x := ⟨_, List.getElem?_eq_getElem hjl⟩
                  obtain ⟨g, rfl, hcl⟩ := done_at (D4.out.below HB.out) hxl
                  have hxm : x ∈ dl := List.mem_of_getElem? hxl
                  have NX := Aside0.mk ((D4.out.2 x hxm).below HB.out)
                  have hj1 : decide ((j : Int) < (dl.length : Int)) = true := decide_eq_true (by omega)
                  have x0 : wr.cell? ⟨g, j * 9, none⟩ = some (.int .i64 x.s.kind) := hcl 0 _ rfl
                  have x1 : wr.cell? ⟨g, j * 9 + 1, none⟩ = some (.int .i64 x.s.client) := hcl 1 _ rfl
                  have x2 : wr.cell? ⟨g, j * 9 + 2, none⟩ = some (.int .i64 x.s.req) := hcl 2 _ rfl
                  have x3 : wr.cell? ⟨g, j * 9 + 3, none⟩ = some (.int .i64 x.s.r.e) := hcl 3 _ rfl
                  have x4 : wr.cell? ⟨g, j * 9 + 4, none⟩ = some (.string x.s.r.d) := hcl 4 _ rfl
                  have x5 : wr.cell? ⟨g, j * 9 + 5, none⟩ = some (.int .i64 x.s.r.k) := hcl 5 _ rfl
                  have x6 : wr.cell? ⟨g, j * 9 + 6, none⟩ = some (.int .i64 x.s.r.l) := hcl 6 _ rfl
                  have x7 : wr.cell? ⟨g, j * 9 + 7, none⟩ = some (.int .i64 x.s.r.s) := hcl 7 _ rfl
                  have x8 : wr.cell? ⟨g, j * 9 + 8, none⟩ = some (.slice x.A x.s.r.n.length x.c) := hcl 8 _ rfl
                  clear hcl
                  have CL : ∀ w', Below wr.heap.size wr w' → Calls Try.prog 13 #[ptr ta, .int .i64 x.s.client] w' fun e w'' => e = .returned (.tuple #[.int .i64 (last m x.s.client).1, .bool (last m x.s.client).2]) ∧ w'' = w' := fun w' hb => last_calls ((D1.out.below HB.out).below hb)
                  have CA : ∀ w', Below wr.heap.size wr w' → Calls Try.prog 11 #[ptr ta, .int .i64 x.s.client, .int .i64 x.s.req] w' (AskPost W.heap.size w' (tAsk m x.s.client x.s.req)) := fun w' hb => ask_calls ((D1.out.below HB.out).below hb) (Nat.le_trans D2.out.size (Nat.le_trans HB.out.size hb.size))
                  have KL := Aside0.mk CL
                  have KA := Aside0.mk CA
                  have hT := D5.out.tells x hxm
                  clear CL CA
                  unfold ptr at KL KA
                  generalize (last m x.s.client).2 = okb at KL
                  generalize (last m x.s.client).1 = nl at KL hT
                  have hk9 := below_alloc (Below.refl wr.heap.size wr) (.cells #[.int .i64 x.s.kind, .int .i64 x.s.client, .int .i64 x.s.req, .int .i64 x.s.r.e, .string x.s.r.d, .int .i64 x.s.r.k, .int .i64 x.s.r.l, .int .i64 x.s.r.s, .slice x.A x.s.r.n.length x.c] 31)
                  rcases hT with ⟨hnl, hask⟩ | ⟨hnl, hask⟩
                  · rw [hask] at KA
                    have r1 : (nl == x.s.req) = true := by simpa using hnl
                    have r2 : (nl != x.s.req) = false := by simpa using hnl
                    have HK := Aside0.mk hk9
                    clear hnl hask hk9
                    go_wp2_with fail
                    refine (KL.out _ HK.out).mono ?_
                    rintro e w7 ⟨rfl, rfl⟩
                    go_wp2_with fail
                    refine (KA.out _ HK.out).mono ?_
                    rintro e w8 ⟨A8, c8, rfl, hn8, hb8⟩
                    dsimp only at hn8 ⊢
                    unfold vres
                    have B8 := Aside0.mk (HK.out.trans ((below_alloc hb8 (robj x.s.r A8 c8)).mono HK.out.size))
                    have N8 := Aside0.mk (hn8.below (below_alloc (Below.refl _ w8) (robj x.s.r A8 c8)))
                    have P8 := blk_below (blk_new wr (.cells #[.int .i64 x.s.kind, .int .i64 x.s.client, .int .i64 x.s.req, .int .i64 x.s.r.e, .string x.s.r.d, .int .i64 x.s.r.k, .int .i64 x.s.r.l, .int .i64 x.s.r.s, .slice x.A x.s.r.n.length x.c] 31)) (below_alloc hb8 (robj x.s.r A8 c8))
                    have y2 := (blk_cell P8 2).trans rfl
                    have y3 := (blk_cell P8 3).trans rfl
                    have y4 := (blk_cell P8 4).trans rfl
                    have y5 := (blk_cell P8 5).trans rfl
                    have y6 := (blk_cell P8 6).trans rfl
                    have y7 := (blk_cell P8 7).trans rfl
                    have y8 := (blk_cell P8 8).trans rfl
                    have Q8 := Aside0.mk P8
                    clear hn8 hb8 P8
                    go_wp2_with fail
                    refine (result_calls (a := x.s.r) (b := x.s.r) N8.out (NX.out.below B8.out)).mono ?_
                    rintro e w9 ⟨rfl, hb9⟩
                    rw [(sameRes_iff x.s.r x.s.r).2 rfl]
                    have B9 := Aside0.mk (HB.out.trans ((B8.out.trans (hb9.mono B8.out.size)).mono HB.out.size))
                    clear y2 y3 y4 y5 y6 y7 y8
                    have y2 := (blk_cell (blk_below Q8.out hb9) 2).trans rfl
                    clear hb9
                    go_wp2_with fail
                    go_roundw
                    case rel => exact ⟨j + 1, by omega, by go_num, B9⟩
                    case measure => simp [intOf]; omega
                  · rw [hask] at KA
                    have r1 : (nl == x.s.req) = false := by simpa using hnl
                    have r2 : (nl != x.s.req) = true := by simpa using hnl
                    have HK := Aside0.mk hk9
                    clear hnl hask hk9
                    go_wp2_with fail
                    refine (KL.out _ HK.out).mono ?_
                    rintro e w7 ⟨rfl, rfl⟩
                    go_wp2_with fail
                    refine (KA.out _ HK.out).mono ?_
                    rintro e w8 ⟨A8, c8, rfl, hn8, hb8⟩
                    dsimp only at hn8 ⊢
                    unfold vres
                    have B8 := Aside0.mk (HK.out.trans ((below_alloc hb8 (robj zero A8 c8)).mono HK.out.size))
                    have B9 := Aside0.mk (HB.out.trans (B8.out.mono HB.out.size))
                    have P8 := blk_below (blk_new wr (.cells #[.int .i64 x.s.kind, .int .i64 x.s.client, .int .i64 x.s.req, .int .i64 x.s.r.e, .string x.s.r.d, .int .i64 x.s.r.k, .int .i64 x.s.r.l, .int .i64 x.s.r.s, .slice x.A x.s.r.n.length x.c] 31)) (below_alloc hb8 (robj zero A8 c8))
                    have y2 := (blk_cell P8 2).trans rfl
                    clear hn8 hb8 P8
                    go_wp2_with fail
                    go_roundw
                    case rel => exact ⟨j + 1, by omega, by go_num, B9⟩
                    case measure => simp [intOf]; omega
                · obtain rfl : j = dl.length := by omega
                  have H10 := Aside0.mk (H9.out.below HB.out)
                  go_wp2_with fail
                  go_roundw
                  case rel => exact ⟨i + 1, by omega, by go_num, H10⟩
                  case measure => simp [intOf]; omega
        · have I5 := begin_err_same hy
          have H9 : Aside0 (St W wj ta (i + 1) (.slice A4 bl.length c4) u5) := ⟨ma, bs1, m, bl, dl, I5 ▸ HT1.out, HB.out, G3.out, G4.out, D5.out, by omega, by omega⟩
          have r1 : ((tBegin m s.client s.req).2 != 0) = true := by simpa using hy
          generalize (tBegin m s.client s.req).2 = y at r1 ⊢
          clear hy I5
          go_wp2_with fail
          go_roundw
          case rel => exact ⟨i + 1, by omega, by go_num, H9⟩
          case measure => simp [intOf]; omega
      have q1 : (s.kind == 1) = false := by simpa using k1
      clear k1
      by_cases k2 : s.kind = 2
      · have q2 : (s.kind == 2) = true := by simpa using k2
        clear k2
        obtain ⟨ma, bsA, m, bl, dl, h1, h2, h3, h4, h5, h6, h7⟩ := H0.out
        obtain ⟨A5, c5, rfl⟩ := own_slice h4.1
        have D1 := Aside0.mk h1
        have D2 := Aside0.mk h2
        have D3 := Aside0.mk h3
        have D4 := Aside0.mk h4
        have D5 := Aside0.mk h5
        have hdl3 : dl.length ≤ 300 := by omega
        clear h1 h2 h3 h4 h5
        have hs0 := (blk_cell P.out 0).trans rfl
        have hs1 := (blk_cell P.out 1).trans rfl
        have hs2 := (blk_cell P.out 2).trans rfl
        go_wp2_with fail
        refine (done_calls (c := s.client) (r := s.req) (x := s.r) D1.out D2.out.size HN.out).mono ?_
        rintro e wj ⟨rfl, hT, hF⟩
        have HB := Aside0.mk (hF.below D2.out (fun k hk => D1.out.base hk) D2.out.size)
        have PP := Aside0.mk (two_keep D1.out hF P.out (by decide) (by decide))
        have HN1 := Aside0.mk (two_names D1.out hF HN.out)
        have G3 := Aside0.mk (D3.out.fr D1.out hF)
        have G4 := Aside0.mk (D4.out.fr D1.out hF)
        have HT1 := Aside0.mk hT
        clear hT hF hs0 hs1 hs2
        by_cases hy : (tDone m s.client s.req s.r).2 = 0
        · have I5 := Aside0.mk (D5.out.wasDone ⟨s, A', c'⟩ hy)
          rw [hy]
          clear hy P HN H0 D1 D2 D3 D4 D5 e0 e1 e2 e3 e4 e5 e6 e7 e8
          go_wp2_with fail
          go_loopw [90] (fun c wr => ∃ j : Nat, j ≤ dl.length ∧ c = .int .i64 j ∧ Aside0 (Below wj.heap.size wj wr)) (fun c _ => dl.length - (intOf c).toNat)
          case atStart => exact ⟨0, by omega, rfl, ⟨Below.refl _ _⟩⟩
          case round =>
            obtain ⟨j, hj, rfl, HL⟩ := hrel
            by_cases hjl : j < dl.length
            · obtain ⟨x, hxl⟩ : ∃ x, dl[j]? = some x := ⟨_, List.getElem?_eq_getElem hjl⟩
              obtain ⟨g, rfl, hcl⟩ := done_at (G4.out.below HL.out) hxl
              have hxm : x ∈ dl := List.mem_of_getElem? hxl
              have hj1 : decide ((j : Int) < (dl.length : Int)) = true := decide_eq_true (by omega)
              have x0 : wr.cell? ⟨g, j * 9, none⟩ = some (.int .i64 x.s.kind) := hcl 0 _ rfl
              have x1 : wr.cell? ⟨g, j * 9 + 1, none⟩ = some (.int .i64 x.s.client) := hcl 1 _ rfl
              have x2 : wr.cell? ⟨g, j * 9 + 2, none⟩ = some (.int .i64 x.s.req) := hcl 2 _ rfl
              have x3 : wr.cell? ⟨g, j * 9 + 3, none⟩ = some (.int .i64 x.s.r.e) := hcl 3 _ rfl
              have x4 : wr.cell? ⟨g, j * 9 + 4, none⟩ = some (.string x.s.r.d) := hcl 4 _ rfl
              have x5 : wr.cell? ⟨g, j * 9 + 5, none⟩ = some (.int .i64 x.s.r.k) := hcl 5 _ rfl
              have x6 : wr.cell? ⟨g, j * 9 + 6, none⟩ = some (.int .i64 x.s.r.l) := hcl 6 _ rfl
              have x7 : wr.cell? ⟨g, j * 9 + 7, none⟩ = some (.int .i64 x.s.r.s) := hcl 7 _ rfl
              have x8 : wr.cell? ⟨g, j * 9 + 8, none⟩ = some (.slice x.A x.s.r.n.length x.c) := hcl 8 _ rfl
              have sc1 := (blk_cell (blk_alloc (blk_below PP.out HL.out) (.cells #[.int .i64 x.s.kind, .int .i64 x.s.client, .int .i64 x.s.req, .int .i64 x.s.r.e, .string x.s.r.d, .int .i64 x.s.r.k, .int .i64 x.s.r.l, .int .i64 x.s.r.s, .slice x.A x.s.r.n.length x.c] 31)) 1).trans rfl
              have sc2 := (blk_cell (blk_alloc (blk_below PP.out HL.out) (.cells #[.int .i64 x.s.kind, .int .i64 x.s.client, .int .i64 x.s.req, .int .i64 x.s.r.e, .string x.s.r.d, .int .i64 x.s.r.k, .int .i64 x.s.r.l, .int .i64 x.s.r.s, .slice x.A x.s.r.n.length x.c] 31)) 2).trans rfl
              simp only [sobj] at sc1 sc2
              have HL2 := Aside0.mk (HL.out.trans ((below_alloc (Below.refl _ wr) (.cells #[.int .i64 x.s.kind, .int .i64 x.s.client, .int .i64 x.s.req, .int .i64 x.s.r.e, .string x.s.r.d, .int .i64 x.s.r.k, .int .i64 x.s.r.l, .int .i64 x.s.r.s, .slice x.A x.s.r.n.length x.c] 31)).mono HL.out.size))
              clear hxl hcl
              by_cases e : x.s.client = s.client
              · have r1 : (x.s.client == s.client) = true := by simpa using e
                have r2 : (x.s.req == s.req) = false := by simpa using I5.out.1 x hxm e
                clear e
                go_wp2_with fail
                go_roundw
                case rel => exact ⟨j + 1, by omega, by go_num, HL2⟩
                case measure => simp [intOf]; omega
              · have r1 : (x.s.client == s.client) = false := by simpa using e
                clear e
                go_wp2_with fail
                go_roundw
                case rel => exact ⟨j + 1, by omega, by go_num, HL2⟩
                case measure => simp [intOf]; omega
            · obtain rfl : j = dl.length := by omega
              have sc0 := (blk_cell (blk_below PP.out HL.out) 0).trans rfl
              have sc1 := (blk_cell (blk_below PP.out HL.out) 1).trans rfl
              have sc2 := (blk_cell (blk_below PP.out HL.out) 2).trans rfl
              have sc3 := (blk_cell (blk_below PP.out HL.out) 3).trans rfl
              have sc4 := (blk_cell (blk_below PP.out HL.out) 4).trans rfl
              have sc5 := (blk_cell (blk_below PP.out HL.out) 5).trans rfl
              have sc6 := (blk_cell (blk_below PP.out HL.out) 6).trans rfl
              have sc7 := (blk_cell (blk_below PP.out HL.out) 7).trans rfl
              have sc8 := (blk_cell (blk_below PP.out HL.out) 8).trans rfl
              simp only [sobj] at sc0 sc1 sc2 sc3 sc4 sc5 sc6 sc7 sc8
              obtain ⟨i0, hi0, hz0, hz1, hz2⟩ := info31
              have O3 := Aside0.mk ((G4.out.below HL.out).1.alloc (.cells #[.int .i64 s.kind, .int .i64 s.client, .int .i64 s.req, .int .i64 s.r.e, .string s.r.d, .int .i64 s.r.k, .int .i64 s.r.l, .int .i64 s.r.s, .slice A' s.r.n.length c'] 31))
              go_wp2_with (at_builtin; refine wpList_append_own _ rfl _ _ 22 rfl W.heap.size 31 i0 (.agg #[.int .i64 0, .int .i64 0, .int .i64 0, .int .i64 0, .string ByteArray.empty, .int .i64 0, .int .i64 0, .int .i64 0, .slice none 0 0]) 9 96 Try.underlying22 hi0 hz0 hz1 hz2 rfl (by decide) _ _ _ rfl O3.out ⟨wr.heap.size, 0, none⟩ 1 1 (sobj s A' c').toList rfl rfl (cells_new wr (sobj s A' c') _) (by simp [sobj, Value.oneCell']) (by unfold maxLen; omega) (by omega) (by have := HB.out.size; have := HL.out.size; simp; omega) ?_)
              intro v1 w1 hown hgrow hnil
              have T1 := Aside0.mk (tab_grown ((HT1.out.below HL.out).below (below_alloc (Below.refl _ wr) (.cells #[.int .i64 s.kind, .int .i64 s.client, .int .i64 s.req, .int .i64 s.r.e, .string s.r.d, .int .i64 s.r.k, .int .i64 s.r.l, .int .i64 s.r.s, .slice A' s.r.n.length c'] 31))) hgrow (row_fact O3.out (by decide) (by decide) (by decide)))
              have T2 := Aside0.mk (below_grown ((HB.out.trans (HL.out.mono HB.out.size)).alloc (Nat.le_trans HB.out.size HL.out.size) (.cells #[.int .i64 s.kind, .int .i64 s.client, .int .i64 s.req, .int .i64 s.r.e, .string s.r.d, .int .i64 s.r.k, .int .i64 s.r.l, .int .i64 s.r.s, .slice A' s.r.n.length c'] 31)) hgrow O3.out)
              have G5 := (G4.out.below HL.out).below (below_alloc (Below.refl _ wr) (.cells #[.int .i64 s.kind, .int .i64 s.client, .int .i64 s.req, .int .i64 s.r.e, .string s.r.d, .int .i64 s.r.k, .int .i64 s.r.l, .int .i64 s.r.s, .slice A' s.r.n.length c'] 31))
              have G6 : wr.ownsRow W.heap.size 40 2 _ _ _ := G3.out.below HL.out
              have HN2 := (HN1.out.below HL.out).below (below_alloc (Below.refl _ wr) (.cells #[.int .i64 s.kind, .int .i64 s.client, .int .i64 s.req, .int .i64 s.r.e, .string s.r.d, .int .i64 s.r.k, .int .i64 s.r.l, .int .i64 s.r.s, .slice A' s.r.n.length c'] 31))
              have T3 : Aside0 (Began W w1 u4 bl) := ⟨other_row (G6.alloc (.cells #[.int .i64 s.kind, .int .i64 s.client, .int .i64 s.req, .int .i64 s.r.e, .string s.r.d, .int .i64 s.r.k, .int .i64 s.r.l, .int .i64 s.r.s, .slice A' s.r.n.length c'] 31)) hgrow O3.out (by decide)⟩
              have T4 : Aside0 (Dones W w1 v1 (dl ++ [⟨s, A', c'⟩])) := ⟨by unfold flatS; rw [List.flatMap_append, List.length_append]; exact hown, fun x hx => by
                rcases List.mem_append.1 hx with hx | hx
                · exact names_grown (G5.2 x hx) hgrow O3.out (by decide)
                · obtain rfl : x = ⟨s, A', c'⟩ := by simpa using hx
                  exact names_grown HN2 hgrow O3.out (by decide)⟩
              have HS : Aside0 (St W w1 ta (i + 1) u4 v1) := ⟨ma, bsA, _, bl, dl ++ [⟨s, A', c'⟩], T1.out, T2.out, T3.out, T4.out, I5.out.2, by omega, by simp; omega⟩
              clear hown hgrow hnil G5 G6 HN2 sc0 sc1 sc2 sc3 sc4 sc5 sc6 sc7 sc8 hi0 hz0 hz1 hz2 O3 T1 T2 T3 T4 HL I5 G3 G4 HB PP HT1 HN1 hdl3 h6 h7 hj hjl
              obtain ⟨ma, bsA, m, bl, dl, h1, h2, h3, h4, h5, h6, h7⟩ := HS.out
              obtain ⟨A6, c6, rfl⟩ := own_slice h4.1
              have D1 := Aside0.mk h1
              have D2 := Aside0.mk h2
              have D4 := Aside0.mk h4
              have D5 := Aside0.mk h5
              have H9 : Aside0 (St W w1 ta (i + 1) u4 (.slice A6 dl.length c6)) := ⟨ma, bsA, m, bl, dl, h1, h2, h3, h4, h5, by omega, by omega⟩
              have hdl : dl.length ≤ 300 := by omega
              clear h1 h2 h3 h4 h5 h6 h7
              go_wp2_with fail
              go_loopw [113] (fun c wr => ∃ j : Nat, j ≤ dl.length ∧ c = .int .i64 j ∧ Aside0 (Below w1.heap.size w1 wr)) (fun c _ => dl.length - (intOf c).toNat)
              case atStart => exact ⟨0, by omega, rfl, ⟨Below.refl _ _⟩⟩
              case round =>
                obtain ⟨j, hj, rfl, HB⟩ := hrel
                by_cases hjl : j < dl.length
                · obtain ⟨x, hxl⟩ : ∃ x, dl[j]? = some x := ⟨_, List.getElem?_eq_getElem hjl⟩
                  obtain ⟨g, rfl, hcl⟩ := done_at (D4.out.below HB.out) hxl
                  have hxm : x ∈ dl := List.mem_of_getElem? hxl
                  have NX := Aside0.mk ((D4.out.2 x hxm).below HB.out)
                  have hj1 : decide ((j : Int) < (dl.length : Int)) = true := decide_eq_true (by omega)
                  have x0 : wr.cell? ⟨g, j * 9, none⟩ = some (.int .i64 x.s.kind) := hcl 0 _ rfl
                  have x1 : wr.cell? ⟨g, j * 9 + 1, none⟩ = some (.int .i64 x.s.client) := hcl 1 _ rfl
                  have x2 : wr.cell? ⟨g, j * 9 + 2, none⟩ = some (.int .i64 x.s.req) := hcl 2 _ rfl
                  have x3 : wr.cell? ⟨g, j * 9 + 3, none⟩ = some (.int .i64 x.s.r.e) := hcl 3 _ rfl
                  have x4 : wr.cell? ⟨g, j * 9 + 4, none⟩ = some (.string x.s.r.d) := hcl 4 _ rfl
                  have x5 : wr.cell? ⟨g, j * 9 + 5, none⟩ = some (.int .i64 x.s.r.k) := hcl 5 _ rfl
                  have x6 : wr.cell? ⟨g, j * 9 + 6, none⟩ = some (.int .i64 x.s.r.l) := hcl 6 _ rfl
                  have x7 : wr.cell? ⟨g, j * 9 + 7, none⟩ = some (.int .i64 x.s.r.s) := hcl 7 _ rfl
                  have x8 : wr.cell? ⟨g, j * 9 + 8, none⟩ = some (.slice x.A x.s.r.n.length x.c) := hcl 8 _ rfl
                  clear hcl
                  have CL : ∀ w', Below wr.heap.size wr w' → Calls Try.prog 13 #[ptr ta, .int .i64 x.s.client] w' fun e w'' => e = .returned (.tuple #[.int .i64 (last m x.s.client).1, .bool (last m x.s.client).2]) ∧ w'' = w' := fun w' hb => last_calls ((D1.out.below HB.out).below hb)
                  have CA : ∀ w', Below wr.heap.size wr w' → Calls Try.prog 11 #[ptr ta, .int .i64 x.s.client, .int .i64 x.s.req] w' (AskPost W.heap.size w' (tAsk m x.s.client x.s.req)) := fun w' hb => ask_calls ((D1.out.below HB.out).below hb) (Nat.le_trans D2.out.size (Nat.le_trans HB.out.size hb.size))
                  have KL := Aside0.mk CL
                  have KA := Aside0.mk CA
                  have hT := D5.out.tells x hxm
                  clear CL CA
                  unfold ptr at KL KA
                  generalize (last m x.s.client).2 = okb at KL
                  generalize (last m x.s.client).1 = nl at KL hT
                  have hk9 := below_alloc (Below.refl wr.heap.size wr) (.cells #[.int .i64 x.s.kind, .int .i64 x.s.client, .int .i64 x.s.req, .int .i64 x.s.r.e, .string x.s.r.d, .int .i64 x.s.r.k, .int .i64 x.s.r.l, .int .i64 x.s.r.s, .slice x.A x.s.r.n.length x.c] 31)
                  rcases hT with ⟨hnl, hask⟩ | ⟨hnl, hask⟩
                  · rw [hask] at KA
                    have r1 : (nl == x.s.req) = true := by simpa using hnl
                    have r2 : (nl != x.s.req) = false := by simpa using hnl
                    have HK := Aside0.mk hk9
                    clear hnl hask hk9
                    go_wp2_with fail
                    refine (KL.out _ HK.out).mono ?_
                    rintro e w7 ⟨rfl, rfl⟩
                    go_wp2_with fail
                    refine (KA.out _ HK.out).mono ?_
                    rintro e w8 ⟨A8, c8, rfl, hn8, hb8⟩
                    dsimp only at hn8 ⊢
                    unfold vres
                    have B8 := Aside0.mk (HK.out.trans ((below_alloc hb8 (robj x.s.r A8 c8)).mono HK.out.size))
                    have N8 := Aside0.mk (hn8.below (below_alloc (Below.refl _ w8) (robj x.s.r A8 c8)))
                    have P8 := blk_below (blk_new wr (.cells #[.int .i64 x.s.kind, .int .i64 x.s.client, .int .i64 x.s.req, .int .i64 x.s.r.e, .string x.s.r.d, .int .i64 x.s.r.k, .int .i64 x.s.r.l, .int .i64 x.s.r.s, .slice x.A x.s.r.n.length x.c] 31)) (below_alloc hb8 (robj x.s.r A8 c8))
                    have y2 := (blk_cell P8 2).trans rfl
                    have y3 := (blk_cell P8 3).trans rfl
                    have y4 := (blk_cell P8 4).trans rfl
                    have y5 := (blk_cell P8 5).trans rfl
                    have y6 := (blk_cell P8 6).trans rfl
                    have y7 := (blk_cell P8 7).trans rfl
                    have y8 := (blk_cell P8 8).trans rfl
                    have Q8 := Aside0.mk P8
                    clear hn8 hb8 P8
                    go_wp2_with fail
                    refine (result_calls (a := x.s.r) (b := x.s.r) N8.out (NX.out.below B8.out)).mono ?_
                    rintro e w9 ⟨rfl, hb9⟩
                    rw [(sameRes_iff x.s.r x.s.r).2 rfl]
                    have B9 := Aside0.mk (HB.out.trans ((B8.out.trans (hb9.mono B8.out.size)).mono HB.out.size))
                    clear y2 y3 y4 y5 y6 y7 y8
                    have y2 := (blk_cell (blk_below Q8.out hb9) 2).trans rfl
                    clear hb9
                    go_wp2_with fail
                    go_roundw
                    case rel => exact ⟨j + 1, by omega, by go_num, B9⟩
                    case measure => simp [intOf]; omega
                  · rw [hask] at KA
                    have r1 : (nl == x.s.req) = false := by simpa using hnl
                    have r2 : (nl != x.s.req) = true := by simpa using hnl
                    have HK := Aside0.mk hk9
                    clear hnl hask hk9
                    go_wp2_with fail
                    refine (KL.out _ HK.out).mono ?_
                    rintro e w7 ⟨rfl, rfl⟩
                    go_wp2_with fail
                    refine (KA.out _ HK.out).mono ?_
                    rintro e w8 ⟨A8, c8, rfl, hn8, hb8⟩
                    dsimp only at hn8 ⊢
                    unfold vres
                    have B8 := Aside0.mk (HK.out.trans ((below_alloc hb8 (robj zero A8 c8)).mono HK.out.size))
                    have B9 := Aside0.mk (HB.out.trans (B8.out.mono HB.out.size))
                    have P8 := blk_below (blk_new wr (.cells #[.int .i64 x.s.kind, .int .i64 x.s.client, .int .i64 x.s.req, .int .i64 x.s.r.e, .string x.s.r.d, .int .i64 x.s.r.k, .int .i64 x.s.r.l, .int .i64 x.s.r.s, .slice x.A x.s.r.n.length x.c] 31)) (below_alloc hb8 (robj zero A8 c8))
                    have y2 := (blk_cell P8 2).trans rfl
                    clear hn8 hb8 P8
                    go_wp2_with fail
                    go_roundw
                    case rel => exact ⟨j + 1, by omega, by go_num, B9⟩
                    case measure => simp [intOf]; omega
                · obtain rfl : j = dl.length := by omega
                  have H10 := Aside0.mk (H9.out.below HB.out)
                  go_wp2_with fail
                  go_roundw
                  case rel => exact ⟨i + 1, by omega, by go_num, H10⟩
                  case measure => simp [intOf]; omega
        · have I5 := done_err_same hy
          have H9 : Aside0 (St W wj ta (i + 1) u4 (.slice A5 dl.length c5)) := ⟨ma, bsA, m, bl, dl, I5 ▸ HT1.out, HB.out, G3.out, G4.out, D5.out, by omega, by omega⟩
          have r1 : ((tDone m s.client s.req s.r).2 != 0) = true := by simpa using hy
          generalize (tDone m s.client s.req s.r).2 = y at r1 ⊢
          clear hy I5
          go_wp2_with fail
          go_roundw
          case rel => exact ⟨i + 1, by omega, by go_num, H9⟩
          case measure => simp [intOf]; omega
      have q2 : (s.kind == 2) = false := by simpa using k2
      clear k2
      obtain ⟨wj, hwj⟩ : ∃ wj, wj = wr.alloc (.cells (sobj s A' c') 31) := ⟨_, rfl⟩
      rw [← hwj] at H0 HN P
      obtain ⟨ma, bsA, m, bl, dl, h1, h2, h3, h4, h5, h6, h7⟩ := H0.out
      obtain ⟨A5, c5, rfl⟩ := own_slice h4.1
      have D1 := Aside0.mk h1
      have D2 := Aside0.mk h2
      have D4 := Aside0.mk h4
      have D5 := Aside0.mk h5
      have H9 : Aside0 (St W wj ta (i + 1) u4 (.slice A5 dl.length c5)) := ⟨ma, bsA, m, bl, dl, h1, h2, h3, h4, h5, by omega, by omega⟩
      have hdl : dl.length ≤ 300 := by omega
      clear h1 h2 h3 h4 h5 h6 h7
      go_wp2_with fail
      have hobj : wr.alloc (.cells #[.int .i64 s.kind, .int .i64 s.client, .int .i64 s.req, .int .i64 s.r.e, .string s.r.d, .int .i64 s.r.k, .int .i64 s.r.l, .int .i64 s.r.s, .slice A' s.r.n.length c'] 31) = wj := hwj.symm
      rw [hobj]
      clear hobj hwj P HN e0 e1 e2 e3 e4 e5 e6 e7 e8
      go_loopw [113] (fun c wr => ∃ j : Nat, j ≤ dl.length ∧ c = .int .i64 j ∧ Aside0 (Below wj.heap.size wj wr)) (fun c _ => dl.length - (intOf c).toNat)
      case atStart => exact ⟨0, by omega, rfl, ⟨Below.refl _ _⟩⟩
      case round =>
        obtain ⟨j, hj, rfl, HB⟩ := hrel
        by_cases hjl : j < dl.length
        · obtain ⟨x, hxl⟩ : ∃ x, dl[j]? = some x := ⟨_, List.getElem?_eq_getElem hjl⟩
          obtain ⟨g, rfl, hcl⟩ := done_at (D4.out.below HB.out) hxl
          have hxm : x ∈ dl := List.mem_of_getElem? hxl
          have NX := Aside0.mk ((D4.out.2 x hxm).below HB.out)
          have hj1 : decide ((j : Int) < (dl.length : Int)) = true := decide_eq_true (by omega)
          have x0 : wr.cell? ⟨g, j * 9, none⟩ = some (.int .i64 x.s.kind) := hcl 0 _ rfl
          have x1 : wr.cell? ⟨g, j * 9 + 1, none⟩ = some (.int .i64 x.s.client) := hcl 1 _ rfl
          have x2 : wr.cell? ⟨g, j * 9 + 2, none⟩ = some (.int .i64 x.s.req) := hcl 2 _ rfl
          have x3 : wr.cell? ⟨g, j * 9 + 3, none⟩ = some (.int .i64 x.s.r.e) := hcl 3 _ rfl
          have x4 : wr.cell? ⟨g, j * 9 + 4, none⟩ = some (.string x.s.r.d) := hcl 4 _ rfl
          have x5 : wr.cell? ⟨g, j * 9 + 5, none⟩ = some (.int .i64 x.s.r.k) := hcl 5 _ rfl
          have x6 : wr.cell? ⟨g, j * 9 + 6, none⟩ = some (.int .i64 x.s.r.l) := hcl 6 _ rfl
          have x7 : wr.cell? ⟨g, j * 9 + 7, none⟩ = some (.int .i64 x.s.r.s) := hcl 7 _ rfl
          have x8 : wr.cell? ⟨g, j * 9 + 8, none⟩ = some (.slice x.A x.s.r.n.length x.c) := hcl 8 _ rfl
          clear hcl
          have CL : ∀ w', Below wr.heap.size wr w' → Calls Try.prog 13 #[ptr ta, .int .i64 x.s.client] w' fun e w'' => e = .returned (.tuple #[.int .i64 (last m x.s.client).1, .bool (last m x.s.client).2]) ∧ w'' = w' := fun w' hb => last_calls ((D1.out.below HB.out).below hb)
          have CA : ∀ w', Below wr.heap.size wr w' → Calls Try.prog 11 #[ptr ta, .int .i64 x.s.client, .int .i64 x.s.req] w' (AskPost W.heap.size w' (tAsk m x.s.client x.s.req)) := fun w' hb => ask_calls ((D1.out.below HB.out).below hb) (Nat.le_trans D2.out.size (Nat.le_trans HB.out.size hb.size))
          have KL := Aside0.mk CL
          have KA := Aside0.mk CA
          have hT := D5.out.tells x hxm
          clear CL CA
          unfold ptr at KL KA
          generalize (last m x.s.client).2 = okb at KL
          generalize (last m x.s.client).1 = nl at KL hT
          have hk9 := below_alloc (Below.refl wr.heap.size wr) (.cells #[.int .i64 x.s.kind, .int .i64 x.s.client, .int .i64 x.s.req, .int .i64 x.s.r.e, .string x.s.r.d, .int .i64 x.s.r.k, .int .i64 x.s.r.l, .int .i64 x.s.r.s, .slice x.A x.s.r.n.length x.c] 31)
          rcases hT with ⟨hnl, hask⟩ | ⟨hnl, hask⟩
          · rw [hask] at KA
            have r1 : (nl == x.s.req) = true := by simpa using hnl
            have r2 : (nl != x.s.req) = false := by simpa using hnl
            have HK := Aside0.mk hk9
            clear hnl hask hk9
            go_wp2_with fail
            refine (KL.out _ HK.out).mono ?_
            rintro e w7 ⟨rfl, rfl⟩
            go_wp2_with fail
            refine (KA.out _ HK.out).mono ?_
            rintro e w8 ⟨A8, c8, rfl, hn8, hb8⟩
            dsimp only at hn8 ⊢
            unfold vres
            have B8 := Aside0.mk (HK.out.trans ((below_alloc hb8 (robj x.s.r A8 c8)).mono HK.out.size))
            have N8 := Aside0.mk (hn8.below (below_alloc (Below.refl _ w8) (robj x.s.r A8 c8)))
            have P8 := blk_below (blk_new wr (.cells #[.int .i64 x.s.kind, .int .i64 x.s.client, .int .i64 x.s.req, .int .i64 x.s.r.e, .string x.s.r.d, .int .i64 x.s.r.k, .int .i64 x.s.r.l, .int .i64 x.s.r.s, .slice x.A x.s.r.n.length x.c] 31)) (below_alloc hb8 (robj x.s.r A8 c8))
            have y2 := (blk_cell P8 2).trans rfl
            have y3 := (blk_cell P8 3).trans rfl
            have y4 := (blk_cell P8 4).trans rfl
            have y5 := (blk_cell P8 5).trans rfl
            have y6 := (blk_cell P8 6).trans rfl
            have y7 := (blk_cell P8 7).trans rfl
            have y8 := (blk_cell P8 8).trans rfl
            have Q8 := Aside0.mk P8
            clear hn8 hb8 P8
            go_wp2_with fail
            refine (result_calls (a := x.s.r) (b := x.s.r) N8.out (NX.out.below B8.out)).mono ?_
            rintro e w9 ⟨rfl, hb9⟩
            rw [(sameRes_iff x.s.r x.s.r).2 rfl]
            have B9 := Aside0.mk (HB.out.trans ((B8.out.trans (hb9.mono B8.out.size)).mono HB.out.size))
            clear y2 y3 y4 y5 y6 y7 y8
            have y2 := (blk_cell (blk_below Q8.out hb9) 2).trans rfl
            clear hb9
            go_wp2_with fail
            go_roundw
            case rel => exact ⟨j + 1, by omega, by go_num, B9⟩
            case measure => simp [intOf]; omega
          · rw [hask] at KA
            have r1 : (nl == x.s.req) = false := by simpa using hnl
            have r2 : (nl != x.s.req) = true := by simpa using hnl
            have HK := Aside0.mk hk9
            clear hnl hask hk9
            go_wp2_with fail
            refine (KL.out _ HK.out).mono ?_
            rintro e w7 ⟨rfl, rfl⟩
            go_wp2_with fail
            refine (KA.out _ HK.out).mono ?_
            rintro e w8 ⟨A8, c8, rfl, hn8, hb8⟩
            dsimp only at hn8 ⊢
            unfold vres
            have B8 := Aside0.mk (HK.out.trans ((below_alloc hb8 (robj zero A8 c8)).mono HK.out.size))
            have B9 := Aside0.mk (HB.out.trans (B8.out.mono HB.out.size))
            have P8 := blk_below (blk_new wr (.cells #[.int .i64 x.s.kind, .int .i64 x.s.client, .int .i64 x.s.req, .int .i64 x.s.r.e, .string x.s.r.d, .int .i64 x.s.r.k, .int .i64 x.s.r.l, .int .i64 x.s.r.s, .slice x.A x.s.r.n.length x.c] 31)) (below_alloc hb8 (robj zero A8 c8))
            have y2 := (blk_cell P8 2).trans rfl
            clear hn8 hb8 P8
            go_wp2_with fail
            go_roundw
            case rel => exact ⟨j + 1, by omega, by go_num, B9⟩
            case measure => simp [intOf]; omega
        · obtain rfl : j = dl.length := by omega
          have H10 := Aside0.mk (H9.out.below HB.out)
          go_wp2_with fail
          go_roundw
          case rel => exact ⟨i + 1, by omega, by go_num, H10⟩
          case measure => simp [intOf]; omega
    · obtain rfl : i = l.length := by omega
      have HB := Aside0.mk H.out.base
      go_wp2_with fail
      refine (speaks_calls wr).mono ?_
      rintro e w9 ⟨rfl, hb⟩
      have HB9 := Aside0.mk (HB.out.trans (hb.mono HB.out.size))
      clear hb
      go_wp2_with fail
      go_ret
      exact ⟨rfl, HB9.out⟩
theorem TableOnce (W : World) (A : Option Addr) (n c : Nat) (l : List Step) (h : (Kd.slice 31 stepK).K W l [.slice A n c]) (hg : ∀ s ∈ l, goodStep s) :
    Calls Try.prog 4 #[.slice A n c] W fun e W' => e = .returned (.bool true) ∧ Below W.heap.size W W' := by
  obtain ⟨A1, c1, he, hc, hC⟩ := h
  obtain ⟨rfl, rfl, rfl⟩ : A = A1 ∧ n = l.length ∧ c = c1 := by simpa using he
  by_cases hn : l.length ≤ 300
  · exact once_short W A c l hc hC hg hn
  · exact once_long W A c l.length (by omega)
end Go.Proofs.Ytjjbikpjkbdabaa.Core
