/- A region that is played: a journal and its region, side by side. -/
import Derived.Test.YtlmnfnkjbgnklaaJOpenW
import Derived.Test.YtlmnfnkjbgnklaaJrnlK
set_option linter.unusedVariables false
set_option linter.unusedSimpArgs false
namespace Go.Proofs.Ytlmnfnkjbgnklaa.Jrnl
open Go.RowKit Go.Proofs.YtlmnfnkjbgnklaaW.PrintWords Go.Proofs.YtlmnfnkjbgnklaaW.PrintLast Go.Proofs.YtlmnfnkjbgnklaaW.PrintMore Go.Proofs.Ytlmnfnkjbgnklaa.TxnS Go.Proofs.Ytlmnfnkjbgnklaa.Txn Go.Proofs.Ytlmnfnkjbgnklaa.JS Go.Proofs.Ytlmnfnkjbgnklaa.Run Go.Proofs.Ytlmnfnkjbgnklaa.Spec Go.Proofs.Ytlmnfnkjbgnklaa.C Go.Proofs.Ytlmnfnkjbgnklaa.Blk
theorem rows_at {w : World} {B : Nat} {e : TypeId} {v : Value} {us : List Value} {L : List (List Ch)} (h : RowX w B e v us) (hu : UsOk w us L) {i : Nat} (hi : i < L.length) : ∃ g off cap A c, v = .slice (some ⟨g, off, none⟩) L.length cap ∧ w.cell? ⟨g, off + i, none⟩ = some (.slice A L[i].length c) ∧ Chs w A L[i] := by
  obtain ⟨A, c, e1, hc⟩ := hu.2 i hi
  obtain ⟨g, off, cap, e2, e3⟩ := h.cell (i := i) (by rw [hu.1]; exact hi)
  refine ⟨g, off, cap, A, c, by rw [e2, hu.1], ?_, hc⟩
  rw [e3, ← e1, List.getElem?_eq_getElem]
set_option maxHeartbeats 3200000 in
set_option maxRecDepth 100000 in
theorem told_yes (L : List (List Ch)) (A A2 : Option Addr) (c c2 : Nat) (w : World) (B B2 : Nat) (us us2 : List Value) (h1 : RowX w B 31 (.slice A L.length c) us) (u1 : UsOk w us L) (h2 : RowX w B2 31 (.slice A2 L.length c2) us2) (u2 : UsOk w us2 L) (hL : L.length ≤ 1000) (hl : ∀ l ∈ L, l.length ≤ 1125899906842624) (d1 : ∀ x ∈ us, ∀ k, rd x k → k < w.heap.size) (d2 : ∀ x ∈ us2, ∀ k, rd x k → k < w.heap.size) :
    Calls Try.prog 27 #[.slice A L.length c, .slice A2 L.length c2] w fun e w' => e = .returned (.bool true) ∧ Below w.heap.size w w' := by
  have H1 : Aside0 (∀ w', Below w.heap.size w w' → RowX w' B 31 (.slice A L.length c) us ∧ UsOk w' us L) := ⟨fun w' hb => ⟨h1.below hb, u1.step fun x hx k hk => hb.block k (d1 x hx k hk)⟩⟩
  have H2 : Aside0 (∀ w', Below w.heap.size w w' → RowX w' B2 31 (.slice A2 L.length c2) us2 ∧ UsOk w' us2 L) := ⟨fun w' hb => ⟨h2.below hb, u2.step fun x hx k hk => hb.block k (d2 x hx k hk)⟩⟩
  have HL := Aside0.mk hl
  clear h1 u1 h2 u2 d1 d2 hl
  go_enter Try.func27, Try.ntmps27
  go_wp2_with fail
  go_loopw [13] (fun v13 wr => ∃ i : Nat, i ≤ L.length ∧ v13 = .int .i64 (i : Int) ∧ Aside0 (Below w.heap.size w wr)) (fun x _ => L.length - (intOf x).toNat)
  case atStart => exact ⟨0, by omega, rfl, ⟨Below.refl _ _⟩⟩
  case round =>
    obtain ⟨i, hi, rfl, HB⟩ := hrel
    by_cases hlt : i < L.length
    · obtain ⟨g, off, cap, Aa, ca, x1, x2, x3⟩ := rows_at (H1.out _ HB.out).1 (H1.out _ HB.out).2 hlt
      obtain ⟨g2, off2, cap2, Ab, cb, y1, y2, y3⟩ := rows_at (H2.out _ HB.out).1 (H2.out _ HB.out).2 hlt
      simp only [Value.slice.injEq] at x1 y1
      obtain ⟨rfl, -, rfl⟩ := x1
      obtain ⟨rfl, -, rfl⟩ := y1
      have hl := HL.out _ (List.getElem_mem hlt)
      generalize L[i] = l at x2 x3 y2 y3 hl
      have X3 := Aside0.mk x3
      have Y3 := Aside0.mk y3
      have K1 : Aside0 (∀ w' : World, Below wr.heap.size wr w' → w'.cell? ⟨g, off + i, none⟩ = some (.slice Aa l.length ca) ∧ w'.cell? ⟨g2, off2 + i, none⟩ = some (.slice Ab l.length cb)) := ⟨fun w' hb => ⟨(World.cell?_of_block (hb.block _ (World.block_lt_of_cell? wr _ x2))).trans x2, (World.cell?_of_block (hb.block _ (World.block_lt_of_cell? wr _ y2))).trans y2⟩⟩
      have B0 : Aside0 (Below wr.heap.size wr wr.drew) := ⟨below_drew1 (Below.refl _ _)⟩
      have HC : Aside0 (Calls Try.prog 46 #[.slice Aa l.length ca, .slice Ab l.length cb] wr.drew fun e w' => e = .returned (.bool true) ∧ Below wr.drew.heap.size wr.drew w') := ⟨by
        have := changes_calls l l Aa Ab ca cb wr.drew (X3.out.below B0.out) (Y3.out.below B0.out) hl hl
        rwa [decide_eq_true rfl] at this⟩
      clear x2 x3 y2 y3 hl
      go_wp2_with fail
      go_region_held3 (fun w' => w'.cell? ⟨g, off + i, none⟩ = some (.slice Aa l.length ca) ∧ w'.cell? ⟨g2, off2 + i, none⟩ = some (.slice Ab l.length cb)) (first | exact K1.out _ B0.out | exact K1.out _ B1.out) (first
        | (go_at_call 46; refine HC.out.mono ?_; rintro e w1 ⟨rfl, hB⟩; have B1 := Aside0.mk (B0.out.trans (hB.mono B0.out.size)); clear hB))
      all_goals
        go_wp2_with fail
        go_roundw
        case rel => exact ⟨i + 1, by omega, by simp, ⟨HB.out.trans (B1.out.mono HB.out.size)⟩⟩
        case measure => simp [intOf]; omega
    · obtain rfl : i = L.length := by omega
      go_wp2_with fail
      go_ret
      exact ⟨rfl, HB.out⟩
/-- A row of texts in a block of its own. -/
def Reg (w : World) (g : Nat) (reg : List ByteArray) : Prop := w.heap[g]? = some (.cells (tv reg).toArray 9 (0, 0))
theorem Reg.strs {w : World} {g : Nat} {reg : List ByteArray} (h : Reg w g reg) : Strs w (some ⟨g, 0, none⟩) reg := by
  intro i hi
  refine ⟨_, rfl, ?_⟩
  have e3 : (⟨g, 0, none⟩ : Addr).add i = ⟨g, i, none⟩ := by unfold Addr.add; split <;> simp_all
  rw [e3]
  exact (blk_cell h i).trans (by simp [tv, hi])
theorem Reg.set {w : World} {g : Nat} {reg : List ByteArray} (h : Reg w g reg) (i : Nat) (b : ByteArray) : Reg (w.setCell ⟨g, i, none⟩ (.string b)) g (reg.set i b) := by
  have := blk_set h i (.string b)
  unfold Reg
  rw [this]
  simp [tv, List.map_set]
theorem Reg.cell {w : World} {g : Nat} {reg : List ByteArray} (h : Reg w g reg) {i : Nat} {b : ByteArray} (hb : reg[i]? = some b) : w.cell? ⟨g, i, none⟩ = some (.string b) := (blk_cell h i).trans (by simp [tv, hb])
theorem RowX_take {w : World} {B : Nat} {e : TypeId} {xs : List Value} {A : Option Addr} {n c : Nat} (h : RowX w B e (.slice A n c) xs) (k : Nat) (hk : k ≤ xs.length) : RowX w B e (.slice A k c) (xs.take k) := by
  rcases h with ⟨h1, h2⟩ | ⟨g, off, cap, C, h1, hb, hg, h3, h4, h5, h6⟩
  · simp only [Value.slice.injEq] at h1
    obtain ⟨rfl, rfl, rfl⟩ := h1
    subst h2
    have : k = 0 := by simpa using hk
    subst this
    exact .inl ⟨rfl, rfl⟩
  · simp only [Value.slice.injEq] at h1
    obtain ⟨rfl, rfl, rfl⟩ := h1
    refine .inr ⟨g, off, c, C, by rw [List.length_take, Nat.min_eq_left hk], hb, hg, by rw [List.length_take]; omega, h4, h5, fun j hj => ?_⟩
    rw [List.length_take] at hj
    rw [h6 j (by omega), List.getElem?_take_of_lt (by omega)]
theorem UsOk.take {w : World} {us : List Value} {L : List (List Ch)} (h : UsOk w us L) (k : Nat) : UsOk w (us.take k) (L.take k) := by
  refine ⟨by simp [h.1], fun i hi => ?_⟩
  rw [List.length_take] at hi
  obtain ⟨A, c, e, hc⟩ := h.2 i (by omega)
  refine ⟨A, c, ?_, ?_⟩
  · rw [List.getElem?_take_of_lt (by omega), e, List.getElem_take]
  · rw [List.getElem_take]; exact hc
/-- A region, its journal, what it has. -/
structure PS (W w : World) (g jb : Nat) (v u : Value) (us : List Value) (reg : List ByteArray) (J : Jr) (hs : List (List Ch)) : Prop where
  rg : Reg w g reg
  j : JIs W.heap.size w jb v J
  o : RowX w W.heap.size 31 u us
  uo : UsOk w us hs
  b : Below W.heap.size W w
  g0 : W.heap.size ≤ g
  d1 : ¬ fp jb v g
  d2 : u.ownBlock ≠ some g
  d3 : ∀ k, u.ownBlock = some k → ¬ fp jb v k
  d4 : ∀ x ∈ us, ∀ k, rd x k → k < W.heap.size
section
variable {W w w' : World} {g jb : Nat} {v u : Value} {us : List Value} {reg : List ByteArray} {J J' : Jr} {hs : List (List Ch)}
theorem PS.glt (h : PS W w g jb v u us reg J hs) : g < w.heap.size := blk_lt h.rg
theorem PS.below (h : PS W w g jb v u us reg J hs) (hb : Below w.heap.size w w') : PS W w' g jb v u us reg J hs :=
  ⟨(hb.block g h.glt).trans h.rg, h.j.below hb, h.o.below hb, h.uo.step fun x hx k hk => hb.block k (Nat.lt_of_lt_of_le (h.d4 x hx k hk) h.b.size), h.b.trans (hb.mono h.b.size), h.g0, h.d1, h.d2, h.d3, h.d4⟩
theorem PS.setReg (h : PS W w g jb v u us reg J hs) (i : Nat) (b : ByteArray) : PS W (w.setCell ⟨g, i, none⟩ (.string b)) g jb v u us (reg.set i b) J hs :=
  ⟨h.rg.set i b, h.j.step fun k hk => blk_set_ne i _ (fun e => h.d1 (e ▸ hk)), h.o.step fun k hk => blk_set_ne i _ (fun e => h.d2 (e ▸ hk)), h.uo.step fun x hx k hk => blk_set_ne i _ (fun e => by have := h.d4 x hx k hk; have := h.g0; omega), h.b.setCell (p := ⟨g, i, none⟩) h.g0 _, h.g0, h.d1, h.d2, h.d3, h.d4⟩
theorem PS.jstep {v' : Value} (h : PS W w g jb v u us reg J hs) (hj : JIs W.heap.size w' jb v' J') (hf : Fr w w' (fp jb v)) (hp : ∀ k, fp jb v' k → fp jb v k ∨ w.heap.size ≤ k) : PS W w' g jb v' u us reg J' hs := by
  refine ⟨(hf.block g h.glt h.d1).trans h.rg, hj, h.o.step fun k hk => hf.block k (h.o.lt k hk) (h.d3 k hk), h.uo.step fun x hx k hk => hf.block k (Nat.lt_of_lt_of_le (h.d4 x hx k hk) h.b.size) (fun hfp => by have := h.d4 x hx k hk; have := h.j.ge hfp; omega), Fr.below h.b hf (fun k hk => h.j.ge hk) h.b.size, h.g0, fun hfp => ?_, h.d2, fun k hk hfp => ?_, h.d4⟩
  · rcases hp g hfp with h1 | h1
    · exact h.d1 h1
    · have := h.glt; omega
  · rcases hp k hfp with h1 | h1
    · exact h.d3 k hk h1
    · have := h.o.lt k hk; omega
theorem PS.push {u' : Value} {A : Option Addr} {l : List Ch} {c : Nat} (h : PS W w g jb v u us reg J hs) (hr : RowX w' W.heap.size 31 u' (us ++ [.slice A l.length c])) (hg : w.grownBy w' u.ownBlock) (ho : u'.ownBlock = u.ownBlock ∨ u'.ownBlock = some w.heap.size) (hc : Chs w A l) (hl : ∀ k, rd (.slice A l.length c) k → k < W.heap.size) : PS W w' g jb v u' (us ++ [.slice A l.length c]) reg J (hs ++ [l]) := by
  have hlo : ∀ x ∈ us ++ [.slice A l.length c], ∀ k, rd x k → k < W.heap.size := fun x hx k hk => by
    rcases List.mem_append.1 hx with hx | hx
    · exact h.d4 x hx k hk
    · obtain rfl : x = .slice A l.length c := by simpa using hx
      exact hl k hk
  refine ⟨(hg.block g h.glt (fun e => h.d2 e.symm)).trans h.rg, h.j.step fun k hk => hg.block k (h.j.lt hk) (fun e => h.d3 k e.symm hk), hr, (h.uo.push hc).step fun x hx k hk => hg.block k (Nat.lt_of_lt_of_le (hlo x hx k hk) h.b.size) (fun e => by have := hlo x hx k hk; have := h.o.ge k e.symm; omega), h.b.grown hg h.b.size (fun k hk => h.o.ge k hk), h.g0, h.d1, fun e => ?_, fun k hk hf => ?_, hlo⟩
  · rcases ho with e1 | e1
    · exact h.d2 (e1 ▸ e)
    · have := Option.some.inj (Eq.trans (Eq.symm e1) e); have := h.glt; omega
  · rcases ho with e1 | e1
    · exact h.d3 k (Eq.trans (Eq.symm e1) hk) hf
    · have h1 := Option.some.inj (Eq.trans (Eq.symm e1) hk)
      have := h.j.lt hf
      omega
theorem PS.cut {A : Option Addr} {n c k : Nat} (h : PS W w g jb v (.slice A n c) us reg J hs) (hn : n = hs.length) (hk : k ≤ n) : PS W w g jb v (.slice (if c = k then A else A.map (fun x => x.add k)) (n - k) (c - k)) (us.drop k) reg J (hs.drop k) := by
  obtain ⟨h1, h2⟩ := RowX_cut2 (k := k) h.o (by rw [h.uo.1]; exact hn) hk
  exact ⟨h.rg, h.j, h1, h.uo.drop k, h.b, h.g0, h.d1, by rw [h2]; exact h.d2, fun i hi => h.d3 i (by rwa [h2] at hi), fun x hx => h.d4 x (List.mem_of_mem_drop hx)⟩
end
theorem appJ_zero {J : Jr} {l : List Ch} (h : (appJ J l).2.1 = 0) : right l ∧ room J l.length ∧ appJ J l = (wsJ J l, 0, pushJ J (l.length + 1)) := by
  unfold appJ at h ⊢
  split
  · rename_i h1; rw [if_pos h1] at h; cases h
  · rename_i h1
    rw [if_neg h1] at h
    split
    · rename_i h2; rw [if_pos h2] at h; cases h
    · rename_i h2
      exact ⟨Decidable.not_not.1 h1, Decidable.not_not.1 h2, rfl⟩
theorem blocksL_sz {q : Int} {l : List Ch} (hr : right l) : ∀ b ∈ blocksL q l, b.size = 128 := by
  intro b hb
  rcases List.mem_cons.1 hb with rfl | hb
  · exact blockS_size _ (by rw [headT_size]; have := hr.2; omega)
  · obtain ⟨c, hc, rfl⟩ := List.mem_map.1 hb
    exact (rightL_all (-1) l hr.1 c hc).2.2
theorem wsJ_len (J : Jr) (l : List Ch) : (wsJ J l).length = l.length + 1 := by unfold wsJ; rw [wsA_length, blocksL_len]
theorem wsJ_at {J : Jr} {hs : List (List Ch)} {reg : List ByteArray} {u : Nat} (h : PI J hs reg u) (l : List Ch) (hr : right l) (t : Nat) (ht : t < l.length + 1) : ∃ b, (wsJ J l)[t]'(by rw [wsJ_len]; exact ht) = ((((J.tail.toNat + (J.sizes.sum + t)) % J.ring.toNat + 1 : Nat) : Int), b) ∧ b.size = 128 ∧ (flatB J.first (hs ++ [l]))[J.sizes.sum + t]? = some b := by
  have hl : t < (blocksL (J.first + (J.sizes.length : Int)) l).length := by rw [blocksL_len]; exact ht
  refine ⟨(blocksL (J.first + (J.sizes.length : Int)) l)[t]'hl, ?_, blocksL_sz hr _ (List.getElem_mem hl), ?_⟩
  · have hp : (J.tail + ((J.sizes.sum : Nat) : Int) + (t : Int)) % J.ring + 1 = (((J.tail.toNat + (J.sizes.sum + t)) % J.ring.toNat + 1 : Nat) : Int) := by
      have ht := h.ok.t0
      have hr := h.ok.r7
      generalize J.sizes.sum = s
      obtain ⟨a, ha⟩ : ∃ a : Nat, J.tail = a := ⟨J.tail.toNat, by omega⟩
      obtain ⟨r, hr'⟩ : ∃ r : Nat, J.ring = r := ⟨J.ring.toNat, by omega⟩
      rw [ha, hr', Int.toNat_natCast, Int.toNat_natCast, show (a : Int) + (s : Int) + (t : Int) = ((a + (s + t) : Nat) : Int) from by omega]
      exact_mod_cast rfl
    rw [← hp]
    simp [wsJ, wsA]
  · rw [h.last l t ht, List.getElem?_eq_getElem hl]
def Picks (w : World) (A : Option Addr) (l : List Bool) : Prop := ∀ i (h : i < l.length), ∃ ad, A = some ad ∧ w.cell? (ad.add i) = some (.bool l[i])
theorem Picks.below {w w' : World} {A : Option Addr} {l : List Bool} (h : Picks w A l) (hb : Below w.heap.size w w') : Picks w' A l := by
  intro i hi
  obtain ⟨ad, e, hc⟩ := h i hi
  exact ⟨ad, e, (World.cell?_of_block (hb.block _ (World.block_lt_of_cell? w _ hc))).trans hc⟩
set_option maxHeartbeats 1600000 in
set_option maxRecDepth 100000 in
theorem played_no (n : Int) (r1 r2 : Value) (w : World) (h : n < 8 ∨ 256 < n) : Calls Try.prog 28 #[.int .i64 n, r1, r2] w fun e w' => e = .returned (.tuple #[.slice none 0 0, .pointer none, .slice none 0 0]) ∧ Below w.heap.size w w' := by
  have hup := Try.underlying23
  have HN := Aside0.mk h
  clear h
  go_enter Try.func28, Try.ntmps28
  go_wp2_with fail
  refine (new_no n w HN.out).mono ?_
  rintro e w1 ⟨rfl, hb1⟩
  have T1 := Aside0.mk hb1
  clear hb1
  go_wp2_with fail
  refine bodyPost_ret (v := .tuple #[.slice none 0 0, .pointer none, .slice none 0 0]) (by simp [results, Try.results28, go_sem]) rfl ⟨rfl, T1.out⟩
end Go.Proofs.Ytlmnfnkjbgnklaa.Jrnl
