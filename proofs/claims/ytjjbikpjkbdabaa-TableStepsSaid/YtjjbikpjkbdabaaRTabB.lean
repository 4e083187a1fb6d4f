/- The document's table: Begin. -/
import Derived.Test.YtjjbikpjkbdabaaRTab
set_option linter.unusedVariables false
set_option linter.unusedSimpArgs false
namespace Go.Proofs.Ytjjbikpjkbdabaa.RTab
open Go.RowKit Go.Proofs.YtjjbikpjkbdabaaW.PrintWords Go.Proofs.YtjjbikpjkbdabaaW.PrintLast Go.Proofs.YtjjbikpjkbdabaaW.PrintMore Go.Proofs.Ytjjbikpjkbdabaa.Maps Go.Proofs.Ytjjbikpjkbdabaa.TabS Go.Proofs.Ytjjbikpjkbdabaa.Tab
theorem infoK : (Try.prog.info? 54).map (fun i => (i.zero, i.size, i.bytes)) = some (some (.agg #[.int .i64 0, .int .i64 0, .bool false, .int .i64 0, .string ⟨#[]⟩, .int .i64 0, .int .i64 0, .int .i64 0, .slice none 0 0]), 9, 96) := by kernel_rfl
theorem kcells_one (x : Kn) : ∀ u ∈ kcells x, u.oneCell' = true := by
  intro u hu
  simp only [kcells, kobj, List.mem_cons, List.not_mem_nil, or_false] at hu
  rcases hu with rfl | rfl | rfl | rfl | rfl | rfl | rfl | rfl | rfl <;> rfl
theorem flatK_snoc (l : List Kn) (x : Kn) : flatK (l ++ [x]) = flatK l ++ kcells x := by simp [flatK]
theorem tOf_snoc (l : List Kn) (x : Kn) : tOf (l ++ [x]) = tOf l ++ [(x.c, x.k)] := by simp [tOf, Kn.kv]
theorem hm_le1 {a b c : Nat} {p : Bool} (h1' : a ≤ b + p.toNat) (h2 : b ≤ c) (h3 : c ≤ 256) : (a + 1) * 96 ≤ 140737488355328 := by have := Bool.toNat_le p; omega
theorem hm_le2 {a b c : Nat} {p : Bool} (h1' : a ≤ b + p.toNat) (h2 : b ≤ c) (h3 : c ≤ 256) : (a + 1 + 1) * 96 ≤ 140737488355328 := by have := Bool.toNat_le p; omega
theorem names_grown2 {B base n size : Nat} {w w1 : World} {v : Value} {xs : List Value} {A : Option Addr} {m : List ByteArray} {c : Nat} (h : Names B w A m c) (hg : w.grownBy w1 v.ownBlock) (hv : w.ownsRow base 54 size v n xs) (hb : B ≤ base) : Names B w1 A m c :=
  h.step (fun k hk hlt => hg.block k hlt (fun q => by
    obtain ⟨cells', hc'⟩ := own_typed hv k q.symm
    have hb2 := own_base hv k q.symm
    rcases hk with hk | ⟨cells, hc⟩
    · omega
    · rw [hc] at hc'
      simp at hc'))
theorem rowk_push {B base : Nat} {W w9 : World} {v v9 : Value} {l2 : List Kn} {y : Kn} (hR : RowK B W base v l2) (hb : B ≤ base) (hr : w9.ownsRow base 54 9 v9 (l2.length + 1) (flatK l2 ++ kcells y)) (hg : W.grownBy w9 v.ownBlock) (hy : Names B W y.A y.k.res.n y.p) : RowK B w9 base v9 (l2 ++ [y]) := by
  refine ⟨by rw [List.length_append, List.length_singleton, flatK_snoc]; exact hr, fun z hz => ?_⟩
  rcases List.mem_append.1 hz with hz | hz
  · exact names_grown2 (hR.2 z hz) hg hR.1 hb
  · obtain rfl : z = y := by simpa using hz
    exact names_grown2 hy hg hR.1 hb
theorem own_mono {w : World} {b b' : Nat} {e : TypeId} {size : Nat} {v : Value} {n : Nat} {xs : List Value} (h : w.ownsRow b' e size v n xs) (hb : b ≤ b') : w.ownsRow b e size v n xs := by
  refine ⟨h.1, ?_⟩
  rcases h.2 with h2 | ⟨g, cap, cur, hv, hg, rest⟩
  · exact .inl h2
  · exact .inr ⟨g, cap, cur, hv, by omega, rest⟩
/-- Begin, as the document says it. -/
def bsB (L : T) (c r : Int) : T × Int :=
  if (tAsk L c r).2.2 = 0 then (if (tAsk L c r).1 = 1 then (if mget L c = none ∧ 256 ≤ L.length then (L, 5) else (bput L c ⟨r, false, zero⟩, 0)) else (L, 7)) else (L, (tAsk L c r).2.2)
section
variable {B rb : Nat} {v : Value} {l : List Kn} {c r : Int} {w : World}
theorem bresy (w : World) (y : Res) (A : Option Addr) (c' : Nat) : Below w.heap.size w (w.alloc (.cells #[.int .i64 y.e, .string y.d, .int .i64 y.k, .int .i64 y.l, .int .i64 y.s, .slice A y.n.length c'] 29)) := below_alloc (Below.refl _ _) _
set_option maxHeartbeats 1600000 in
set_option maxRecDepth 100000 in
theorem rbegin_err (h : RIs B w rb v l) (hBw : B ≤ w.heap.size) (hl : l.length ≤ 1000) (ha : (tAsk (tOf l) c r).2.2 ≠ 0) : Calls Try.prog 14 #[ptr rb, .int .i64 c, .int .i64 r] w (RPost B rb v w (tOf l, (tAsk (tOf l) c r).2.2)) := by
  have hu := Try.underlying29
  have H := Aside0.mk h
  have HA := Aside0.mk (rask_calls (c := c) (r := r) h hBw hl)
  have b1 : ((tAsk (tOf l) c r).2.2 != 0) = true := by simpa using ha
  generalize tAsk (tOf l) c r = a at HA b1
  clear h ha
  unfold ptr at *
  go_enter Try.func14, Try.ntmps14
  go_wp2_with fail
  refine HA.out.mono ?_
  rintro e w1 ⟨A1, c1, rfl, hn, hb⟩
  have B1 := Aside0.mk hb
  clear hn hb
  unfold vres
  go_wp2_with fail
  go_ret
  exact RPost.same H.out (B1.out.trans ((bresy w1 a.2.1 A1 c1).mono B1.out.size))
set_option maxHeartbeats 1600000 in
set_option maxRecDepth 100000 in
theorem rbegin_state (h : RIs B w rb v l) (hBw : B ≤ w.heap.size) (hl : l.length ≤ 1000) (ha : (tAsk (tOf l) c r).2.2 = 0) (ha1 : (tAsk (tOf l) c r).1 ≠ 1) : Calls Try.prog 14 #[ptr rb, .int .i64 c, .int .i64 r] w (RPost B rb v w (tOf l, 7)) := by
  have hu := Try.underlying29
  have H := Aside0.mk h
  have HA := Aside0.mk (rask_calls (c := c) (r := r) h hBw hl)
  have b1 : ((tAsk (tOf l) c r).2.2 != 0) = false := by simpa using ha
  have b2 : ((tAsk (tOf l) c r).1 != 1) = true := by simpa using ha1
  generalize tAsk (tOf l) c r = a at HA b1 b2
  clear h ha ha1
  unfold ptr at *
  go_enter Try.func14, Try.ntmps14
  go_wp2_with fail
  refine HA.out.mono ?_
  rintro e w1 ⟨A1, c1, rfl, hn, hb⟩
  have B1 := Aside0.mk hb
  clear hn hb
  unfold vres
  go_wp2_with fail
  go_ret
  exact RPost.same H.out (B1.out.trans ((bresy w1 a.2.1 A1 c1).mono B1.out.size))
theorem rbegin_end {W : World} {v3 : Value} {l3 : List Kn} {t : T} (h : RIs B w rb v l) (hBw : B ≤ w.heap.size) (hb : Below w.heap.size w W) (hR : RowK B W w.heap.size v3 l3) (ht : tOf l3 = t) : RPost B rb v w (t, 0) (.returned (.int .i64 0)) (W.setCell ⟨rb, 0, none⟩ v3) := by
  have hlt := blk_lt h.blk
  have hblk := blk_below h.blk hb
  have hne : ∀ k, v3.ownBlock = some k → k ≠ rb := fun k hk e => by have h1 := own_base hR.1 k hk; omega
  refine ⟨rfl, v3, l3, ⟨?_, ⟨?_, fun z hz => ?_⟩, h.bd⟩, ht, ?_, fun k hk => ?_⟩
  · exact blk_put hblk 0 v3 (by simp)
  · exact own_move (own_mono hR.1 hBw) (fun k hk => setc_far (hne k hk))
  · exact (hR.2 z hz).far hblk (by decide) h.bd 0 v3
  · exact (Fr.of_below hb _).trans (fr_set1 W rb 0 v3) (fun k hk => .inl (.inl hk))
  · rcases hk with hk | hk
    · exact .inl (.inl hk)
    · exact .inr (own_base hR.1 k hk)
set_option maxHeartbeats 6400000 in
set_option maxRecDepth 100000 in
theorem rbegin_fresh (h : RIs B w rb v l) (hBw : B ≤ w.heap.size) (hl : l.length ≤ 256) (ha : (tAsk (tOf l) c r).2.2 = 0) (ha1 : (tAsk (tOf l) c r).1 = 1) (res : T × Int) (h5 : fnd l c < 0 ∧ 256 ≤ l.length → res = (tOf l, 5)) (h0 : ¬ (fnd l c < 0 ∧ 256 ≤ l.length) → res = (bput (tOf l) c ⟨r, false, zero⟩, 0)) : Calls Try.prog 14 #[ptr rb, .int .i64 c, .int .i64 r] w (RPost B rb v w res) := by
  have hu := Try.underlying29
  have hup := Try.underlying44
  have hut := Try.underlying47
  have huk := Try.underlying54
  obtain ⟨Av, cp, rfl⟩ := h.row.slice
  have H := Aside0.mk h
  have HBw := Aside0.mk hBw
  have HA := Aside0.mk (rask_calls (c := c) (r := r) h hBw (by omega))
  have b1 : ((tAsk (tOf l) c r).2.2 != 0) = false := by simpa using ha
  have b2 : ((tAsk (tOf l) c r).1 != 1) = false := by simpa using ha1
  generalize tAsk (tOf l) c r = a at HA b1 b2
  obtain ⟨f, hf⟩ : ∃ f, f = fnd l c := ⟨_, rfl⟩
  rw [← hf] at h5 h0
  have H5 := Aside0.mk h5
  have H0 := Aside0.mk h0
  have HF : Aside0 (∀ w', Below w.heap.size w w' → Calls Try.prog 24 #[ptr rb, .int .i64 c] w' fun e w'' => e = .returned (.int .i64 f) ∧ Below w'.heap.size w' w'') := ⟨fun w' hb => by
    rw [hf]
    exact find_calls (H.out.below hb) c (by omega)⟩
  clear h ha ha1 h5 h0 hf hBw
  unfold ptr at *
  go_enter Try.func14, Try.ntmps14
  go_wp2_with fail
  refine HA.out.mono ?_
  rintro e w1 ⟨A1, c1, rfl, hn, hb⟩
  have B1 := Aside0.mk (hb.trans ((bresy w1 a.2.1 A1 c1).mono hb.size))
  clear hn hb HA
  unfold vres
  go_wp2_with fail
  refine (HF.out _ B1.out).mono ?_
  rintro e w2 ⟨rfl, hb⟩
  have B2 := Aside0.mk (B1.out.trans (hb.mono B1.out.size))
  clear hb B1 HF
  have c0 := (H.out.below B2.out).c0
  by_cases g1 : f < 0 ∧ 256 ≤ l.length
  · have HE5 : Aside0 (res = (tOf l, 5)) := ⟨H5.out g1⟩
    have b3 : decide (f < 0) = true := decide_eq_true g1.1
    have b4 : decide ((l.length : Int) ≥ 256) = true := decide_eq_true (by omega)
    have b4' : decide (256 ≤ (l.length : Int)) = true := decide_eq_true (by omega)
    clear g1
    go_wp2_with fail
    go_ret
    rw [HE5.out]
    exact RPost.same H.out B2.out
  have HE0 : Aside0 (res = (bput (tOf l) c ⟨r, false, zero⟩, 0)) := ⟨H0.out g1⟩
  have hcase : decide (f < 0) = false ∨ (decide (f < 0) = true ∧ decide (256 ≤ (l.length : Int)) = false) := by
    by_cases h1 : f < 0
    · exact .inr ⟨decide_eq_true h1, decide_eq_false (by omega)⟩
    · exact .inl (decide_eq_false h1)
  clear g1 H5 H0
  go_upto_region 7 with fail
  go_cut [40] (fun v40 wc => v40 = .bool false ∧ wc = w2)
  case first =>
    rcases hcase with b3 | ⟨b3, b4⟩
    all_goals
      go_wp2_with fail
      go_meet
      case rel => exact ⟨rfl, rfl⟩
  case rest =>
    obtain ⟨rfl, rfl⟩ := hcut
    clear hcase b1 b2
    go_wp2_with fail
    go_loopw [11, 12, 46] (fun v11 v12 v46 wr => ∃ (i : Nat) (l2 : List Kn) (put : Bool), i ≤ l.length ∧ l2.length ≤ i + put.toNat ∧ v46 = .int .i64 (i : Int) ∧ v12 = .bool put ∧ Aside0 (RowK B wr w.heap.size v11 l2) ∧ Aside0 ((tOf l2, put) = ((tOf l).take i).foldl (bstep c ⟨r, false, zero⟩) ([], false)) ∧ Aside0 (Below w.heap.size w wr)) (fun _ _ x _ => l.length - (intOf x).toNat)
    case atStart => exact ⟨0, [], false, by omega, by simp, rfl, rfl, ⟨RowK.nil _ _ _⟩, ⟨rfl⟩, B2⟩
    case round =>
      clear c0
      obtain ⟨i, l2, put, hi, hl2, rfl, rfl, HR, HE, HB⟩ := hrel
      obtain ⟨A2, c2, rfl⟩ := HR.out.slice
      by_cases hlt : i < l.length
      · obtain ⟨x, hx⟩ : ∃ x, l[i]? = some x := ⟨_, List.getElem?_eq_getElem hlt⟩
        obtain ⟨g, rfl, hcl⟩ := (H.out.below HB.out).row.at_ hx
        have x0 : wr.cell? ⟨g, i * 9, none⟩ = some (.int .i64 x.c) := hcl 0 _ rfl
        have x1 : wr.cell? ⟨g, i * 9 + 1, none⟩ = some (.int .i64 x.k.req) := hcl 1 _ rfl
        have x2 : wr.cell? ⟨g, i * 9 + 2, none⟩ = some (.bool x.k.done) := hcl 2 _ rfl
        have x3 : wr.cell? ⟨g, i * 9 + 3, none⟩ = some (.int .i64 x.k.res.e) := hcl 3 _ rfl
        have x4 : wr.cell? ⟨g, i * 9 + 4, none⟩ = some (.string x.k.res.d) := hcl 4 _ rfl
        have x5 : wr.cell? ⟨g, i * 9 + 5, none⟩ = some (.int .i64 x.k.res.k) := hcl 5 _ rfl
        have x6 : wr.cell? ⟨g, i * 9 + 6, none⟩ = some (.int .i64 x.k.res.l) := hcl 6 _ rfl
        have x7 : wr.cell? ⟨g, i * 9 + 7, none⟩ = some (.int .i64 x.k.res.s) := hcl 7 _ rfl
        have x8 : wr.cell? ⟨g, i * 9 + 8, none⟩ = some (.slice x.A x.k.res.n.length x.p) := hcl 8 _ rfl
        have hlt2 : (i : Int) < (l.length : Int) := by omega
        have hst : ((tOf l).take (i + 1)).foldl (bstep c ⟨r, false, zero⟩) ([], false) = bstep c ⟨r, false, zero⟩ (tOf l2, put) (x.c, x.k) := by
          have e : (tOf l)[i]? = some (x.c, x.k) := by unfold tOf; rw [List.getElem?_map, hx]; rfl
          rw [List.take_add_one, e, List.foldl_append, ← HE.out]
          rfl
        have HSt := Aside0.mk hst
        have HNe : Aside0 (∀ k, (Value.slice A2 l2.length c2).ownBlock = some k → k < wr.heap.size) := ⟨fun k hk => own_lt HR.out.1 k hk⟩
        have P8 := Aside0.mk (blk_new wr (.cells #[.int .i64 x.c, .int .i64 x.k.req, .bool x.k.done, .int .i64 x.k.res.e, .string x.k.res.d, .int .i64 x.k.res.k, .int .i64 x.k.res.l, .int .i64 x.k.res.s, .slice x.A x.k.res.n.length x.p] 54))
        have hb8 := below_alloc (Below.refl wr.heap.size wr) (.cells #[.int .i64 x.c, .int .i64 x.k.req, .bool x.k.done, .int .i64 x.k.res.e, .string x.k.res.d, .int .i64 x.k.res.k, .int .i64 x.k.res.l, .int .i64 x.k.res.s, .slice x.A x.k.res.n.length x.p] 54)
        have R8 := Aside0.mk (HR.out.below hb8)
        have B8 := Aside0.mk (HB.out.trans (hb8.mono HB.out.size))
        have HNx := Aside0.mk (((H.out.below HB.out).row.below hb8).2 x (List.mem_of_getElem? hx))
        have hml : (l2.length + 1) * 96 ≤ 140737488355328 := hm_le1 hl2 hi hl
        have hml2 : (l2.length + 1 + 1) * 96 ≤ 140737488355328 := hm_le2 hl2 hi hl
        clear hcl hst hx hb8
        go_upto_region 14 with fail
        generalize wr.alloc (.cells #[.int .i64 x.c, .int .i64 x.k.req, .bool x.k.done, .int .i64 x.k.res.e, .string x.k.res.d, .int .i64 x.k.res.k, .int .i64 x.k.res.l, .int .i64 x.k.res.s, .slice x.A x.k.res.n.length x.p] 54) = W8 at P8 R8 B8 HNx ⊢
        generalize wr.heap.size = g8 at P8 HNe ⊢
        clear HR HB HE x0 x1 x2 x3 x4 x5 x6 x7 x8
        by_cases k1 : put = false ∧ c ≤ x.c
        · obtain ⟨rfl, k1⟩ := k1
          have b3 : decide (x.c ≥ c) = true := decide_eq_true k1
          have b3' : decide (c ≤ x.c) = true := decide_eq_true k1
          have y0 := (blk_cell P8.out 0).trans (Eq.refl (some (Value.int .i64 x.c)))
          go_upto_region 17 with (at_builtin; refine print_append_cells w.heap.size rfl (.tmp 58) (.tmp 62) 45 54 (.agg #[.int .i64 0, .int .i64 0, .bool false, .int .i64 0, .string ⟨#[]⟩, .int .i64 0, .int .i64 0, .int .i64 0, .slice none 0 0]) 9 96 rfl Try.underlying45 infoK rfl (by decide) (by decide) _ _ _ (kcells ⟨c, ⟨r, false, zero⟩, none, 0⟩) rfl rfl rfl (kcells_one _) R8.out.1 B8.out B8.out.size hml ?_; intro v9 w9 hr9 hb9 hg9 _; have R9 := Aside0.mk hr9; have B9 := Aside0.mk hb9; have G9 := Aside0.mk hg9; clear hr9 hb9 hg9)
          have R10 := Aside0.mk (rowk_push R8.out HBw.out R9.out G9.out (y := ⟨c, ⟨r, false, zero⟩, none, 0⟩) (Names.nil _ _))
          have P9 := Aside0.mk ((G9.out.block g8 (blk_lt P8.out) (fun e => Nat.lt_irrefl _ (HNe.out g8 e.symm))).trans P8.out)
          have HN9 := Aside0.mk (names_grown2 HNx.out G9.out R8.out.1 HBw.out)
          obtain ⟨A9, c9, rfl⟩ := Go.Proofs.YtjjbikpjkbdabaaW.PrintWords.own_slice R9.out
          clear y0 P8
          by_cases k2 : x.c = c
          · have b4 : (x.c != c) = false := by simpa using k2
            have HS : Aside0 ((tOf (l2 ++ [⟨c, ⟨r, false, zero⟩, none, 0⟩]), true) = ((tOf l).take (i + 1)).foldl (bstep c ⟨r, false, zero⟩) ([], false)) := ⟨by
              rw [HSt.out, tOf_snoc]
              unfold bstep
              rw [if_pos (show false = false ∧ c ≤ x.c from ⟨rfl, k1⟩), if_pos k2]⟩
            have hlen : (l2 ++ [⟨c, ⟨r, false, zero⟩, none, 0⟩] : List Kn).length = l2.length + 1 := by simp
            clear k1 k2
            have y0 := (blk_cell P9.out 0).trans (Eq.refl (some (Value.int .i64 x.c)))
            go_wp2_with fail
            go_roundw
            case rel => exact ⟨i + 1, l2 ++ [⟨c, ⟨r, false, zero⟩, none, 0⟩], true, by omega, by rw [hlen]; have h : l2.length ≤ i := hl2; show _ ≤ i + 1 + 1; omega, by go_num, rfl, by rw [hlen] at *; exact R10, HS, B9⟩
            case measure => simp [intOf]; omega
          · have b4 : (x.c != c) = true := by simpa using k2
            have HS : Aside0 ((tOf ((l2 ++ [⟨c, ⟨r, false, zero⟩, none, 0⟩]) ++ [x]), true) = ((tOf l).take (i + 1)).foldl (bstep c ⟨r, false, zero⟩) ([], false)) := ⟨by
              rw [HSt.out, tOf_snoc, tOf_snoc]
              unfold bstep
              rw [if_pos (show false = false ∧ c ≤ x.c from ⟨rfl, k1⟩), if_neg k2]⟩
            clear k1 k2
            have y0 := (blk_cell P9.out 0).trans (Eq.refl (some (Value.int .i64 x.c)))
            have y1 := (blk_cell P9.out 1).trans (Eq.refl (some (Value.int .i64 x.k.req)))
            have y2 := (blk_cell P9.out 2).trans (Eq.refl (some (Value.bool x.k.done)))
            have y3 := (blk_cell P9.out 3).trans (Eq.refl (some (Value.int .i64 x.k.res.e)))
            have y4 := (blk_cell P9.out 4).trans (Eq.refl (some (Value.string x.k.res.d)))
            have y5 := (blk_cell P9.out 5).trans (Eq.refl (some (Value.int .i64 x.k.res.k)))
            have y6 := (blk_cell P9.out 6).trans (Eq.refl (some (Value.int .i64 x.k.res.l)))
            have y7 := (blk_cell P9.out 7).trans (Eq.refl (some (Value.int .i64 x.k.res.s)))
            have y8 := (blk_cell P9.out 8).trans (Eq.refl (some (Value.slice x.A x.k.res.n.length x.p)))
            have HNe9 : Aside0 (flatK l2 ++ kcells ⟨c, ⟨r, false, zero⟩, none, 0⟩ = flatK (l2 ++ [⟨c, ⟨r, false, zero⟩, none, 0⟩])) := ⟨(flatK_snoc l2 _).symm⟩
            have hlen : (l2 ++ [⟨c, ⟨r, false, zero⟩, none, 0⟩] : List Kn).length = l2.length + 1 := by simp
            have HLen := Aside0.mk hlen
            have R11 := R10.out
            unfold RowK at R11
            rw [hlen] at R11
            have R12 := Aside0.mk R11
            clear R11 hlen
            go_wp2_with (at_builtin; refine print_append_cells w.heap.size rfl (.tmp 68) (.tmp 70) 45 54 (.agg #[.int .i64 0, .int .i64 0, .bool false, .int .i64 0, .string ⟨#[]⟩, .int .i64 0, .int .i64 0, .int .i64 0, .slice none 0 0]) 9 96 rfl Try.underlying45 infoK rfl (by decide) (by decide) _ _ _ (kcells x) rfl rfl rfl (kcells_one _) R12.out.1 B9.out B9.out.size hml2 ?_; intro v11 w11 hr11 hb11 hg11 _; have R11 := Aside0.mk hr11; have B11 := Aside0.mk hb11; have G11 := Aside0.mk hg11; clear hr11 hb11 hg11)
            have R13 : Aside0 (RowK B w11 w.heap.size v11 ((l2 ++ [⟨c, ⟨r, false, zero⟩, none, 0⟩]) ++ [x])) := ⟨rowk_push R10.out HBw.out (by rw [HLen.out]; exact R11.out) G11.out HN9.out⟩
            have hlen2 : Aside0 (((l2 ++ [⟨c, ⟨r, false, zero⟩, none, 0⟩]) ++ [x] : List Kn).length ≤ i + 1 + 1) := ⟨by rw [List.length_append, List.length_singleton, HLen.out]; have h : l2.length ≤ i := hl2; omega⟩
            go_roundw
            case rel => exact ⟨i + 1, (l2 ++ [⟨c, ⟨r, false, zero⟩, none, 0⟩]) ++ [x], true, by omega, hlen2.out, by go_num, rfl, R13, HS, B11⟩
            case measure => simp [intOf]; omega
        · have hcase2 : put = true ∨ (put = false ∧ decide (c ≤ x.c) = false) := by
            cases hp : put with
            | true => exact .inl rfl
            | false => exact .inr ⟨rfl, decide_eq_false fun h => k1 ⟨hp, h⟩⟩
          by_cases k2 : x.c = c
          · have b4 : (x.c != c) = false := by simpa using k2
            have HS : Aside0 ((tOf l2, put) = ((tOf l).take (i + 1)).foldl (bstep c ⟨r, false, zero⟩) ([], false)) := ⟨by
              rw [HSt.out]
              unfold bstep
              rw [if_neg k1, if_pos k2]⟩
            have HL2 : Aside0 (l2.length ≤ i + 1 + put.toNat) := ⟨by have := hl2; omega⟩
            clear k1 k2
            have y0 := (blk_cell P8.out 0).trans (Eq.refl (some (Value.int .i64 x.c)))
            rcases hcase2 with rfl | ⟨rfl, b3⟩
            all_goals
              go_wp2_with fail
              go_roundw
              case rel => exact ⟨i + 1, l2, _, by omega, HL2.out, by go_num, rfl, R8, HS, B8⟩
              case measure => simp [intOf]; omega
          · have b4 : (x.c != c) = true := by simpa using k2
            have HS : Aside0 ((tOf (l2 ++ [x]), put) = ((tOf l).take (i + 1)).foldl (bstep c ⟨r, false, zero⟩) ([], false)) := ⟨by
              rw [HSt.out, tOf_snoc]
              unfold bstep
              rw [if_neg k1, if_neg k2]⟩
            have HL2 : Aside0 ((l2 ++ [x]).length ≤ i + 1 + put.toNat) := ⟨by have := hl2; rw [List.length_append, List.length_singleton]; omega⟩
            clear k1 k2
            have y0 := (blk_cell P8.out 0).trans (Eq.refl (some (Value.int .i64 x.c)))
            have y1 := (blk_cell P8.out 1).trans (Eq.refl (some (Value.int .i64 x.k.req)))
            have y2 := (blk_cell P8.out 2).trans (Eq.refl (some (Value.bool x.k.done)))
            have y3 := (blk_cell P8.out 3).trans (Eq.refl (some (Value.int .i64 x.k.res.e)))
            have y4 := (blk_cell P8.out 4).trans (Eq.refl (some (Value.string x.k.res.d)))
            have y5 := (blk_cell P8.out 5).trans (Eq.refl (some (Value.int .i64 x.k.res.k)))
            have y6 := (blk_cell P8.out 6).trans (Eq.refl (some (Value.int .i64 x.k.res.l)))
            have y7 := (blk_cell P8.out 7).trans (Eq.refl (some (Value.int .i64 x.k.res.s)))
            have y8 := (blk_cell P8.out 8).trans (Eq.refl (some (Value.slice x.A x.k.res.n.length x.p)))
            rcases hcase2 with rfl | ⟨rfl, b3⟩
            all_goals
              go_wp2_with (at_builtin; refine print_append_cells w.heap.size rfl (.tmp 68) (.tmp 70) 45 54 (.agg #[.int .i64 0, .int .i64 0, .bool false, .int .i64 0, .string ⟨#[]⟩, .int .i64 0, .int .i64 0, .int .i64 0, .slice none 0 0]) 9 96 rfl Try.underlying45 infoK rfl (by decide) (by decide) _ _ _ (kcells x) rfl rfl rfl (kcells_one _) R8.out.1 B8.out B8.out.size hml ?_; intro v11 w11 hr11 hb11 hg11 _; have R11 := Aside0.mk hr11; have B11 := Aside0.mk hb11; have G11 := Aside0.mk hg11; clear hr11 hb11 hg11)
              have R13 : Aside0 (RowK B w11 w.heap.size v11 (l2 ++ [x])) := ⟨rowk_push R8.out HBw.out R11.out G11.out HNx.out⟩
              go_roundw
              case rel => exact ⟨i + 1, l2 ++ [x], _, by omega, HL2.out, by go_num, rfl, R13, HS, B11⟩
              case measure => simp [intOf]; omega
      · obtain rfl : i = l.length := by omega
        have HB3 := Aside0.mk (H.out.below HB.out)
        have c0 := HB3.out.c0
        have f0 := blk_frozen HB3.out.blk 0
        have HEnd : Aside0 ((tOf l2, put) = (tOf l).foldl (bstep c ⟨r, false, zero⟩) ([], false)) := ⟨by rw [HE.out, List.take_of_length_le (by simp [tOf])]⟩
        have hml : (l2.length + 1) * 96 ≤ 140737488355328 := hm_le1 hl2 hi hl
        cases put with
        | true =>
          have HX : Aside0 (tOf l2 = bput (tOf l) c ⟨r, false, zero⟩) := ⟨by unfold bput; rw [← HEnd.out]; rfl⟩
          go_wp2_with fail
          go_ret
          rw [HE0.out]
          exact rbegin_end H.out HBw.out HB.out HR.out HX.out
        | false =>
          have HX : Aside0 (tOf (l2 ++ [⟨c, ⟨r, false, zero⟩, none, 0⟩]) = bput (tOf l) c ⟨r, false, zero⟩) := ⟨by unfold bput; rw [← HEnd.out, tOf_snoc]; rfl⟩
          have HNr : Aside0 (∀ k, (Value.slice A2 l2.length c2).ownBlock = some k → k ≠ rb) := ⟨fun k hk e => by have h1 := own_base HR.out.1 k hk; have h2 := blk_lt H.out.blk; omega⟩
          go_upto_region 22 with (at_builtin; refine print_append_cells w.heap.size rfl (.tmp 75) (.tmp 79) 45 54 (.agg #[.int .i64 0, .int .i64 0, .bool false, .int .i64 0, .string ⟨#[]⟩, .int .i64 0, .int .i64 0, .int .i64 0, .slice none 0 0]) 9 96 rfl Try.underlying45 infoK rfl (by decide) (by decide) _ _ _ (kcells ⟨c, ⟨r, false, zero⟩, none, 0⟩) rfl rfl rfl (kcells_one _) HR.out.1 HB.out HB.out.size hml ?_; intro v11 w11 hr11 hb11 hg11 _; have R11 := Aside0.mk hr11; have B11 := Aside0.mk hb11; have G11 := Aside0.mk hg11; clear hr11 hb11 hg11)
          have R13 := Aside0.mk (rowk_push HR.out HBw.out R11.out G11.out (y := ⟨c, ⟨r, false, zero⟩, none, 0⟩) (Names.nil _ _))
          have c11 : w11.cell? ⟨rb, 0, none⟩ = some (.slice Av l.length cp) := by
            have h1 := (G11.out.block rb (blk_lt HB3.out.blk) (fun e => HNr.out rb e.symm rfl)).trans HB3.out.blk
            exact (blk_cell h1 0).trans rfl
          have f11 : w11.frozen? ⟨rb, 0, none⟩ = false := by
            have h1 := (G11.out.block rb (blk_lt HB3.out.blk) (fun e => HNr.out rb e.symm rfl)).trans HB3.out.blk
            exact blk_frozen h1 0
          obtain ⟨A11, c11', rfl⟩ := R13.out.slice
          clear c0 f0
          go_wp2_with fail
          go_ret
          rw [HE0.out]
          have R14 := R13.out
          rw [List.length_append, List.length_singleton] at R14
          exact rbegin_end H.out HBw.out B11.out R14 HX.out
theorem rbegin_calls (h : RIs B w rb v l) (hBw : B ≤ w.heap.size) (hl : l.length ≤ 256) : Calls Try.prog 14 #[ptr rb, .int .i64 c, .int .i64 r] w (RPost B rb v w (bsB (tOf l) c r)) := by
  unfold bsB
  by_cases h1 : (tAsk (tOf l) c r).2.2 = 0
  · rw [if_pos h1]
    by_cases h2 : (tAsk (tOf l) c r).1 = 1
    · rw [if_pos h2]
      have hll : (tOf l).length = l.length := by simp [tOf]
      have hfull : (mget (tOf l) c = none ∧ 256 ≤ (tOf l).length) ↔ (fnd l c < 0 ∧ 256 ≤ l.length) := by
        rw [hll]
        rcases fnd_cases l c with ⟨h1, h2⟩ | ⟨i, x, h1, h2, h3, h4, h5, h6⟩
        · rw [h2, h1]; simp
        · rw [h5, h1]
          constructor
          · rintro ⟨e, _⟩; cases e
          · rintro ⟨e, _⟩; omega
      refine rbegin_fresh h hBw hl h1 h2 _ (fun q => ?_) (fun q => ?_)
      · rw [if_pos (hfull.2 q)]
      · rw [if_neg (fun e => q (hfull.1 e))]
    · rw [if_neg h2]; exact rbegin_state h hBw (by omega) h1 h2
  · rw [if_neg h1]; exact rbegin_err h hBw (by omega) h1
end
end Go.Proofs.Ytjjbikpjkbdabaa.RTab
