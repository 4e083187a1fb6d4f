/- The walk of the law CacheKeeps. -/
import Derived.Test.YtikefafpkclgeaaCacheB
set_option linter.unusedVariables false
set_option linter.unusedSimpArgs false
namespace Go.Proofs.Ytikefafpkclgeaa.Core
open Go.RowKit Go.Proofs.YtikefafpkclgeaaW.PrintWords Go.Proofs.YtikefafpkclgeaaW.PrintLast Go.Proofs.YtikefafpkclgeaaW.PrintMore Go.Proofs.Ytikefafpkclgeaa.Maps Go.Proofs.Ytikefafpkclgeaa.CacheS Go.Proofs.Ytikefafpkclgeaa.Cache
def XS (sb tb k : Nat) : Prop := k = sb ∨ k = tb
structure KS (W w : World) (cb : Nat) (n : Int) (T kb db : Nat) (L : List F) (kf : Int → Kn) (yf : Int → Bool) : Prop where
  c : Cch W w cb n T (XS kb db) L
  k : w.heap[kb]? = some (.cells (arrK kf) 51 (0, 0))
  y : w.heap[db]? = some (.cells (arrB yf) 52 (0, 0))
  ne : kb ≠ db
  bk : W.heap.size ≤ kb
  bd : W.heap.size ≤ db
section
variable {W w w' : World} {cb : Nat} {n : Int} {T kb db : Nat} {L L' : List F} {kf : Int → Kn} {yf : Int → Bool} {X : Nat → Prop}
theorem cch_pins (h : Cch W w cb n T X L) : ∀ f ∈ L, 0 ≤ f.p ∧ f.p ≤ T := by
  obtain ⟨mb, ck, E, h1, rfl, _⟩ := h
  intro f hf
  obtain ⟨e, he, rfl⟩ := List.mem_map.1 hf
  exact h1.pT e he
theorem KS.ge (h : KS W w cb n T kb db L kf yf) (k : Nat) (hk : XS kb db k) : W.heap.size ≤ k := by
  have h1 := h.bk
  have h2 := h.bd
  rcases hk with hk | hk <;> omega
theorem KS.below (h : KS W w cb n T kb db L kf yf) (hb : Below w.heap.size w w') : KS W w' cb n T kb db L kf yf := ⟨h.c.below hb, blk_below h.k hb, blk_below h.y hb, h.ne, h.bk, h.bd⟩
theorem KS.up (h : KS W w cb n T kb db L kf yf) {T' : Nat} (hT : T ≤ T') : KS W w cb n T' kb db L kf yf := ⟨h.c.up hT, h.k, h.y, h.ne, h.bk, h.bd⟩
theorem KS.step (h : KS W w cb n T kb db L kf yf) {T' : Nat} (hX : ∀ k, XS kb db k → X k) (hC : Cch W w' cb n T' X L') (hK : Keep X w w') : KS W w' cb n T' kb db L' kf yf := ⟨hC.sub hX, (hK kb (hX kb (.inl rfl))).trans h.k, (hK db (hX db (.inr rfl))).trans h.y, h.ne, h.bk, h.bd⟩
theorem KS.setC (h : KS W w cb n T kb db L kf yf) (i : Nat) (u : Value) {kf' : Int → Kn} (e : (arrK kf).setIfInBounds i u = arrK kf') : KS W (w.setCell ⟨kb, i, none⟩ u) cb n T kb db L kf' yf := by
  have hF := fr_set1 w kb i u
  refine ⟨h.c.other ⟨hF.os, hF.tape, hF.output, hF.size, fun k hk hn => hF.block k hk (fun q => hn (.inl q))⟩ h.ge, ?_, (Below.heap_setCell w ⟨kb, i, none⟩ _ db (fun q => h.ne q.symm)).trans h.y, h.ne, h.bk, h.bd⟩
  rw [blk_set h.k i _, e]
theorem KS.setP (h : KS W w cb n T kb db L kf yf) {j : Nat} (hj : j < 1024) (p : Int) : KS W (w.setCell ⟨kb, j * 3, none⟩ (.int .i64 p)) cb n T kb db L (updK kf (j : Int) (p, (kf (j : Int)).2.1, (kf (j : Int)).2.2)) yf := h.setC _ _ (arrK_p kf hj p)
theorem KS.setD (h : KS W w cb n T kb db L kf yf) {j : Nat} (hj : j < 1024) (d : ByteArray) : KS W (w.setCell ⟨kb, j * 3 + 1, none⟩ (.string d)) cb n T kb db L (updK kf (j : Int) ((kf (j : Int)).1, d, (kf (j : Int)).2.2)) yf := h.setC _ _ (arrK_d kf hj d)
theorem KS.setT (h : KS W w cb n T kb db L kf yf) {j : Nat} (hj : j < 1024) (t : Bool) : KS W (w.setCell ⟨kb, j * 3 + 2, none⟩ (.bool t)) cb n T kb db L (updK kf (j : Int) ((kf (j : Int)).1, (kf (j : Int)).2.1, t)) yf := h.setC _ _ (arrK_t kf hj t)
theorem updK_at (f : Int → Kn) (k : Int) (v : Kn) : updK f k v k = v := by unfold updK; rw [if_pos rfl]
theorem KS.set3 (h : KS W w cb n T kb db L kf yf) {j : Nat} (hj : j < 1024) (p : Int) (d : ByteArray) (t : Bool) : KS W (((w.setCell ⟨kb, j * 3, none⟩ (.int .i64 p)).setCell ⟨kb, j * 3 + 1, none⟩ (.string d)).setCell ⟨kb, j * 3 + 2, none⟩ (.bool t)) cb n T kb db L (updK kf (j : Int) (p, d, t)) yf := by
  have h3 := ((h.setP hj p).setD hj d).setT hj t
  rw [updK_twice, updK_twice, updK_at, updK_at] at h3
  exact h3
theorem KS.setY (h : KS W w cb n T kb db L kf yf) {j : Nat} (hj : j < 1024) (b : Bool) : KS W (w.setCell ⟨db, j, none⟩ (.bool b)) cb n T kb db L kf (updB yf (j : Int) b) := by
  have hF := fr_set1 w db j (.bool b)
  refine ⟨h.c.other ⟨hF.os, hF.tape, hF.output, hF.size, fun k hk hn => hF.block k hk (fun q => hn (.inr q))⟩ h.ge, (Below.heap_setCell w ⟨db, j, none⟩ _ kb h.ne).trans h.k, ?_, h.ne, h.bk, h.bd⟩
  rw [blk_set h.y j _, arrB_set yf hj b]
theorem KS.cells (h : KS W w cb n T kb db L kf yf) {j : Nat} (hj : j < 1024) : w.cell? ⟨kb, j * 3, none⟩ = some (.int .i64 (kf (j : Int)).1) ∧ w.cell? ⟨kb, j * 3 + 1, none⟩ = some (.string (kf (j : Int)).2.1) ∧ w.cell? ⟨kb, j * 3 + 2, none⟩ = some (.bool (kf (j : Int)).2.2) ∧ w.cell? ⟨db, j, none⟩ = some (.bool (yf (j : Int))) :=
  ⟨(blk_cell h.k (j * 3 + 0)).trans (arrK_at kf hj (by decide)), (blk_cell h.k (j * 3 + 1)).trans (arrK_at kf hj (by decide)), (blk_cell h.k (j * 3 + 2)).trans (arrK_at kf hj (by decide)), (blk_cell h.y j).trans (arrB_at yf hj)⟩
theorem gt_no (h : Cch W w cb n T X L) : decide (((heldS L).length : Int) > n) = false := by
  have h1 := h.len.2
  unfold heldS
  rw [List.length_map]
  exact decide_eq_false (by omega)
end
set_option maxHeartbeats 3200000 in
set_option maxRecDepth 100000 in
theorem keeps_no (W : World) (n : Int) (A : Option Addr) (k c : Nat) (hn : n < 1 ∨ 64 < n) :
    Calls Try.prog 6 #[.int .i64 n, .slice A k c] W fun e W' => e = .returned (.bool true) ∧ Below W.heap.size W W' := by
  have hup := Try.underlying23
  have HN := Aside0.mk hn
  clear hn
  go_enter Try.func6, Try.ntmps6
  go_wp2_with fail
  refine (new_no n W HN.out).mono ?_
  rintro e w1 ⟨rfl, hb⟩
  have B1 := Aside0.mk hb
  clear hb
  go_wp2_with fail
  refine (speaks_calls _).mono ?_
  rintro e w3 ⟨rfl, hb⟩
  have B3 := Aside0.mk (B1.out.trans (hb.mono B1.out.size))
  clear hb
  go_wp2_with fail
  go_ret
  exact ⟨rfl, B3.out⟩
set_option maxHeartbeats 3200000 in
set_option maxRecDepth 100000 in
theorem keeps_long (W : World) (n : Int) (A : Option Addr) (k c : Nat) (h1 : 1 ≤ n) (h7 : n ≤ 64) (hk : 500 < k) :
    Calls Try.prog 6 #[.int .i64 n, .slice A k c] W fun e W' => e = .returned (.bool true) ∧ Below W.heap.size W W' := by
  have hup := Try.underlying23
  have HN := Aside0.mk (And.intro h1 h7)
  have b1 : decide ((k : Int) > 500) = true := decide_eq_true (by omega)
  clear h1 h7 hk
  go_enter Try.func6, Try.ntmps6
  go_wp2_with fail
  refine (new_yes n W W.heap.size (Nat.le_refl _) HN.out.1 HN.out.2).mono ?_
  rintro e w1 ⟨cb, mb, rfl, hI, hB, -⟩
  have B1 := Aside0.mk hB
  clear hI hB
  unfold ptr
  go_wp2_with fail
  refine (speaks_calls _).mono ?_
  rintro e w3 ⟨rfl, hb⟩
  have B3 := Aside0.mk (B1.out.trans (hb.mono B1.out.size))
  clear hb
  go_wp2_with fail
  go_ret
  exact ⟨rfl, B3.out⟩
set_option maxHeartbeats 102400000 in
set_option maxRecDepth 100000 in
theorem keeps_short (W : World) (n : Int) (A : Option Addr) (c : Nat) (l : List Step) (h1 : 1 ≤ n) (h7 : n ≤ 64) (hC : Kd.C stepK W A l.length l) (hn : l.length ≤ 500) :
    Calls Try.prog 6 #[.int .i64 n, .slice A l.length c] W fun e W' => e = .returned (.bool true) ∧ Below W.heap.size W W' := by
  have hup := Try.underlying23
  have hus := Try.underlying30
  have huc := Try.underlying37
  have huk := Try.underlying51
  have hub := Try.underlying52
  have hupn := Try.underlying50
  have HC := Aside0.mk hC
  have HL := Aside0.mk hn
  have HN := Aside0.mk (And.intro h1 h7)
  have b1 : decide ((l.length : Int) > 500) = false := decide_eq_false (by omega)
  clear hC hn h1 h7
  go_enter Try.func6, Try.ntmps6
  go_wp2_with fail
  refine (new_yes n W W.heap.size (Nat.le_refl _) HN.out.1 HN.out.2).mono ?_
  rintro e w1 ⟨cb, mb, rfl, hI, hB, -⟩
  have ha1 := below_alloc (Below.refl w1.heap.size w1) (.cells Try.zeroCells51 51)
  have ha2 := below_alloc (Below.refl (w1.alloc (.cells Try.zeroCells51 51)).heap.size (w1.alloc (.cells Try.zeroCells51 51))) (.cells Try.zeroCells52 52)
  have C1 : Aside0 (KS W ((w1.alloc (.cells Try.zeroCells51 51)).alloc (.cells Try.zeroCells52 52)) cb n 0 w1.heap.size (w1.heap.size + 1) [] (knL []) (ynL [])) := ⟨by
    have hc : Cch W w1 cb n 0 (fun _ => False) [] := Cch.new hI hB _ (fun k hk => hk.elim)
    have hs1 : (w1.alloc (.cells Try.zeroCells51 51)).heap.size = w1.heap.size + 1 := by simp
    have hs2 : ((w1.alloc (.cells Try.zeroCells51 51)).alloc (.cells Try.zeroCells52 52)).heap.size = w1.heap.size + 2 := by simp
    have hp1 := blk_alloc (blk_new w1 (.cells Try.zeroCells51 51)) (.cells Try.zeroCells52 52)
    have hp2 := blk_new (w1.alloc (.cells Try.zeroCells51 51)) (.cells Try.zeroCells52 52)
    rw [hs1] at hp2
    have hk0 : knL [] = fun _ => k0 := rfl
    have hy0 : ynL [] = fun _ => false := rfl
    rw [hk0, hy0]
    refine ⟨((hc.more ha1).more ha2).sub fun k hk => ?_, hp1.trans (by rw [zero_arrK]), hp2.trans (by rw [zero_arrB]), by omega, hB.size, Nat.le_succ_of_le hB.size⟩
    rcases hk with hk | hk
    · exact .inl (.inr ⟨by omega, by omega⟩)
    · exact .inr ⟨by omega, by omega⟩⟩
  clear hI hB ha1 ha2
  unfold ptr
  go_upto_region 6 with fail
  generalize (w1.alloc (.cells Try.zeroCells51 51)).alloc (.cells Try.zeroCells52 52) = WA at C1 ⊢
  generalize w1.heap.size + 1 = db at C1 ⊢
  generalize w1.heap.size = kb at C1 ⊢
  go_wp2_with fail
  go_loopw [44] (fun z wr => ∃ (i : Nat) (L : List F), i ≤ l.length ∧ z = .int .i64 i ∧ Aside0 (KS W wr cb n i kb db L (knL L) (ynL L))) (fun z _ => l.length - (intOf z).toNat)
  case atStart => exact ⟨0, [], by omega, rfl, C1⟩
  case round =>
    obtain ⟨i, L, hi, rfl, H⟩ := hrel
    clear C1
    by_cases hlt : i < l.length
    · obtain ⟨s, hs⟩ : ∃ s, l[i]? = some s := ⟨_, List.getElem?_eq_getElem hlt⟩
      obtain ⟨ad, rfl, hcs⟩ := step_at HC.out hs
      obtain ⟨e0, e1, e2⟩ := hcs wr H.out.c.bel
      have hb1 : decide ((i : Int) < (l.length : Int)) = true := decide_eq_true (by omega)
      have P1 := Aside0.mk (blk_new wr (.cells #[.int .i64 s.kind, .int .i64 s.k, .string s.d] 30))
      have hbs := below_alloc (Below.refl wr.heap.size wr) (.cells #[.int .i64 s.kind, .int .i64 s.k, .string s.d] 30)
      have S2 := Aside0.mk (H.out.below hbs)
      have C2 : Aside0 (Cch W (wr.alloc (.cells #[.int .i64 s.kind, .int .i64 s.k, .string s.d] 30)) cb n i (fun k => XS kb db k ∨ k = wr.heap.size) L) := ⟨(H.out.c.more hbs).sub fun k hk => by
        rcases hk with hk | hk
        · exact .inl hk
        · exact .inr (by rw [hk]; exact ⟨Nat.le_refl _, by simp⟩)⟩
      have HB8 : Aside0 (kb < wr.heap.size ∧ db < wr.heap.size) := ⟨blk_lt H.out.k, blk_lt H.out.y⟩
      have HT : Aside0 (i < 1000000) := ⟨by have := HL.out; omega⟩
      have N1 := Aside0.mk (nxt i l.length hlt (Nat.le_trans HL.out (by decide)))
      have M1 := Aside0.mk (meas i l.length hlt (Nat.le_trans HL.out (by decide)))
      clear hs hcs hbs
      go_upto_region 9 with fail
      generalize wr.alloc (.cells #[.int .i64 s.kind, .int .i64 s.k, .string s.d] 30) = W2 at P1 C2 S2 ⊢
      generalize wr.heap.size = b8 at P1 C2 HB8 ⊢
      clear e0 e1 e2 H
      have q0 := (blk_cell P1.out 0).trans (Eq.refl (some (Value.int .i64 s.kind)))
      have q1 := (blk_cell P1.out 1).trans (Eq.refl (some (Value.int .i64 s.k)))
      have q2 := (blk_cell P1.out 2).trans (Eq.refl (some (Value.string s.d)))
      rcases Bool.eq_false_or_eq_true (s.kind == 0) with tk0 | tk0
      · as_aux_lemma =>
          have hP := Aside0.mk (C2.out.load s.k s.d HN.out.1 HT.out)
          have hLK := load_keeps (fr := n) (k := s.k) (d := s.d) C2.out.nb.1 C2.out.nb.2
          generalize loadS n L s.k s.d = r at hP hLK
          obtain ⟨r1, out, r3⟩ := r
          have hLK := Aside0.mk hLK
          unfold ptr at hP
          go_wp2_with fail
          refine hP.out.mono ?_
          rintro e w3 ⟨rfl, hC, hK⟩
          have S3 := Aside0.mk (S2.out.step (fun k hk => .inl hk) hC hK)
          have P3 := Aside0.mk ((hK b8 (.inr rfl)).trans P1.out)
          clear hC hK hP q0 q1 q2 P1 C2 S2
          rcases hLK.out with ⟨hne, hL⟩ | ⟨h0, hr, hy, ⟨ho, hk⟩ | ⟨ho1, ho2, hz, hd, hk⟩⟩
          · have z : (r3 == 0) = false := by simpa using hne
            have S4 : Aside0 (KS W w3 cb n (i + 1) kb db r1 (knL r1) (ynL r1)) := ⟨by
              have hL : r1 = L := hL
              have h1 := S3.out
              rw [hL] at h1 ⊢
              exact h1⟩
            clear hne hL hLK
            go_wp2_with fail
            go_roundw
            case rel => exact ⟨i + 1, _, hlt, N1.out, S4⟩
            case measure => exact M1.out
          · have hrg := right_rng hr
            have h0 : r3 = 0 := h0
            have ho : out = -1 := ho
            subst h0
            subst ho
            have HF : Aside0 (ynL r1 = ynL L ∧ knL r1 = updK (knL L) s.k (0, s.d, true)) := ⟨hy, hk⟩
            clear hr hy hk hLK
            generalize s.k = sk at P3 hrg HF ⊢
            obtain ⟨j, rfl⟩ : ∃ j : Nat, sk = j := ⟨sk.toNat, by omega⟩
            have hj : j < 1024 := by omega
            have hj0 : (0 : Int) ≤ (j : Int) := by omega
            have hj2 : (j : Int) < 1024 := by omega
            have q1 := (blk_cell P3.out 1).trans (Eq.refl (some (Value.int .i64 (j : Int))))
            have q2 := (blk_cell P3.out 2).trans (Eq.refl (some (Value.string s.d)))
            clear hrg
            obtain ⟨y0, y1, y2, y3⟩ := S3.out.cells hj
            have yf := blk_frozen S3.out.k
            have S9 : Aside0 (KS W _ cb n (i + 1) kb db r1 (knL r1) (ynL r1)) := ⟨by
              rw [HF.out.1, HF.out.2]
              exact S3.out.set3 hj 0 s.d true⟩
            have HHeld := Aside0.mk S9.out.c.held
            have hgt := gt_no S9.out.c
            unfold ptr at HHeld
            go_wp2_with fail
            refine HHeld.out.mono ?_
            rintro e w9 ⟨v, rfl, hr, hb⟩
            obtain ⟨A9, c9, rfl⟩ := own_slice hr
            have S10 := Aside0.mk (S9.out.below hb)
            clear hr hb HHeld
            go_wp2_with fail
            go_roundw
            case rel => exact ⟨i + 1, _, hlt, N1.out, S10⟩
            case measure => exact M1.out
          · have hrg := right_rng hr
            have h0 : r3 = 0 := h0
            subst h0
            have ho1 : 0 ≤ out := ho1
            have ho2 : out < 1024 := ho2
            have hz : (knL L out).1 = 0 := hz
            have hd : ynL L out = false := hd
            have HF : Aside0 (ynL r1 = ynL L ∧ knL r1 = updK (updK (knL L) out k0) s.k (0, s.d, true)) := ⟨hy, hk⟩
            clear hr hy hk hLK
            obtain ⟨q, rfl⟩ : ∃ q : Nat, out = q := ⟨out.toNat, by omega⟩
            have hq : q < 1024 := by omega
            have hq0 : (0 : Int) ≤ (q : Int) := by omega
            have hq2 : (q : Int) < 1024 := by omega
            have g1 : decide ((q : Int) < -1) = false := decide_eq_false (by omega)
            have g2 : decide ((q : Int) > 1023) = false := decide_eq_false (by omega)
            have g3 : decide ((q : Int) ≥ 0) = true := decide_eq_true (by omega)
            clear ho1 ho2
            generalize s.k = sk at P3 hrg HF ⊢
            obtain ⟨j, rfl⟩ : ∃ j : Nat, sk = j := ⟨sk.toNat, by omega⟩
            have hj : j < 1024 := by omega
            have hj0 : (0 : Int) ≤ (j : Int) := by omega
            have hj2 : (j : Int) < 1024 := by omega
            have q1 := (blk_cell P3.out 1).trans (Eq.refl (some (Value.int .i64 (j : Int))))
            have q2 := (blk_cell P3.out 2).trans (Eq.refl (some (Value.string s.d)))
            clear hrg
            obtain ⟨x0, x1, x2, x3⟩ := S3.out.cells hq
            rw [hz] at x0
            rw [hd] at x3
            clear hz hd
            have xf := blk_frozen S3.out.k
            have S4 := Aside0.mk (S3.out.set3 hq 0 zs false)
            go_upto_region 25 with fail
            clear x0 x1 x2 x3 xf S3
            have P4 : Aside0 ((((w3.setCell ⟨kb, q * 3, none⟩ (.int .i64 0)).setCell ⟨kb, q * 3 + 1, none⟩ (.string zs)).setCell ⟨kb, q * 3 + 2, none⟩ (.bool false)).heap[b8]? = some (.cells #[.int .i64 s.kind, .int .i64 (j : Int), .string s.d] 30 (0, 0))) := ⟨by
              have hne : b8 ≠ kb := by have := HB8.out.1; omega
              exact (Below.heap_setCell _ ⟨kb, q * 3 + 2, none⟩ _ b8 hne).trans ((Below.heap_setCell _ ⟨kb, q * 3 + 1, none⟩ _ b8 hne).trans ((Below.heap_setCell _ ⟨kb, q * 3, none⟩ _ b8 hne).trans P3.out))⟩
            have hzs : (⟨#[]⟩ : ByteArray) = zs := rfl
            try rw [hzs]
            clear hzs
            generalize ((w3.setCell ⟨kb, q * 3, none⟩ (.int .i64 0)).setCell ⟨kb, q * 3 + 1, none⟩ (.string zs)).setCell ⟨kb, q * 3 + 2, none⟩ (.bool false) = W4 at S4 P4 ⊢
            clear q1 q2
            have q1 := (blk_cell P4.out 1).trans (Eq.refl (some (Value.int .i64 (j : Int))))
            have q2 := (blk_cell P4.out 2).trans (Eq.refl (some (Value.string s.d)))
            obtain ⟨y0, y1, y2, y3⟩ := S4.out.cells hj
            have yf := blk_frozen S4.out.k
            have S9 : Aside0 (KS W _ cb n (i + 1) kb db r1 (knL r1) (ynL r1)) := ⟨by
              rw [HF.out.1, HF.out.2]
              exact S4.out.set3 hj 0 s.d true⟩
            have HHeld := Aside0.mk S9.out.c.held
            have hgt := gt_no S9.out.c
            unfold ptr at HHeld
            go_wp2_with fail
            refine HHeld.out.mono ?_
            rintro e w9 ⟨v, rfl, hr, hb⟩
            obtain ⟨A9, c9, rfl⟩ := own_slice hr
            have S10 := Aside0.mk (S9.out.below hb)
            clear hr hb HHeld
            go_wp2_with fail
            go_roundw
            case rel => exact ⟨i + 1, _, hlt, N1.out, S10⟩
            case measure => exact M1.out
      rcases Bool.eq_false_or_eq_true (s.kind == 1) with tk1 | tk1
      · as_aux_lemma =>
          have hP := Aside0.mk (C2.out.load s.k s.d HN.out.1 HT.out)
          have hLK := load_keeps (fr := n) (k := s.k) (d := s.d) C2.out.nb.1 C2.out.nb.2
          generalize loadS n L s.k s.d = r at hP hLK
          obtain ⟨r1, out, r3⟩ := r
          have hLK := Aside0.mk hLK
          unfold ptr at hP
          go_wp2_with fail
          refine hP.out.mono ?_
          rintro e w3 ⟨rfl, hC, hK⟩
          have S3 := Aside0.mk (S2.out.step (fun k hk => .inl hk) hC hK)
          have P3 := Aside0.mk ((hK b8 (.inr rfl)).trans P1.out)
          clear hC hK hP q0 q1 q2 P1 C2 S2
          rcases hLK.out with ⟨hne, hL⟩ | ⟨h0, hr, hy, ⟨ho, hk⟩ | ⟨ho1, ho2, hz, hd, hk⟩⟩
          · have z : (r3 == 0) = false := by simpa using hne
            have S4 : Aside0 (KS W w3 cb n (i + 1) kb db r1 (knL r1) (ynL r1)) := ⟨by
              have hL : r1 = L := hL
              have h1 := S3.out
              rw [hL] at h1 ⊢
              exact h1⟩
            clear hne hL hLK
            go_wp2_with fail
            go_roundw
            case rel => exact ⟨i + 1, _, hlt, N1.out, S4⟩
            case measure => exact M1.out
          · have hrg := right_rng hr
            have h0 : r3 = 0 := h0
            have ho : out = -1 := ho
            subst h0
            subst ho
            have HF : Aside0 (ynL r1 = ynL L ∧ knL r1 = updK (knL L) s.k (0, s.d, true)) := ⟨hy, hk⟩
            clear hr hy hk hLK
            generalize s.k = sk at P3 hrg HF ⊢
            obtain ⟨j, rfl⟩ : ∃ j : Nat, sk = j := ⟨sk.toNat, by omega⟩
            have hj : j < 1024 := by omega
            have hj0 : (0 : Int) ≤ (j : Int) := by omega
            have hj2 : (j : Int) < 1024 := by omega
            have q1 := (blk_cell P3.out 1).trans (Eq.refl (some (Value.int .i64 (j : Int))))
            have q2 := (blk_cell P3.out 2).trans (Eq.refl (some (Value.string s.d)))
            clear hrg
            obtain ⟨y0, y1, y2, y3⟩ := S3.out.cells hj
            have yf := blk_frozen S3.out.k
            have S9 : Aside0 (KS W _ cb n (i + 1) kb db r1 (knL r1) (ynL r1)) := ⟨by
              rw [HF.out.1, HF.out.2]
              exact S3.out.set3 hj 0 s.d true⟩
            have HHeld := Aside0.mk S9.out.c.held
            have hgt := gt_no S9.out.c
            unfold ptr at HHeld
            go_wp2_with fail
            refine HHeld.out.mono ?_
            rintro e w9 ⟨v, rfl, hr, hb⟩
            obtain ⟨A9, c9, rfl⟩ := own_slice hr
            have S10 := Aside0.mk (S9.out.below hb)
            clear hr hb HHeld
            go_wp2_with fail
            go_roundw
            case rel => exact ⟨i + 1, _, hlt, N1.out, S10⟩
            case measure => exact M1.out
          · have hrg := right_rng hr
            have h0 : r3 = 0 := h0
            subst h0
            have ho1 : 0 ≤ out := ho1
            have ho2 : out < 1024 := ho2
            have hz : (knL L out).1 = 0 := hz
            have hd : ynL L out = false := hd
            have HF : Aside0 (ynL r1 = ynL L ∧ knL r1 = updK (updK (knL L) out k0) s.k (0, s.d, true)) := ⟨hy, hk⟩
            clear hr hy hk hLK
            obtain ⟨q, rfl⟩ : ∃ q : Nat, out = q := ⟨out.toNat, by omega⟩
            have hq : q < 1024 := by omega
            have hq0 : (0 : Int) ≤ (q : Int) := by omega
            have hq2 : (q : Int) < 1024 := by omega
            have g1 : decide ((q : Int) < -1) = false := decide_eq_false (by omega)
            have g2 : decide ((q : Int) > 1023) = false := decide_eq_false (by omega)
            have g3 : decide ((q : Int) ≥ 0) = true := decide_eq_true (by omega)
            clear ho1 ho2
            generalize s.k = sk at P3 hrg HF ⊢
            obtain ⟨j, rfl⟩ : ∃ j : Nat, sk = j := ⟨sk.toNat, by omega⟩
            have hj : j < 1024 := by omega
            have hj0 : (0 : Int) ≤ (j : Int) := by omega
            have hj2 : (j : Int) < 1024 := by omega
            have q1 := (blk_cell P3.out 1).trans (Eq.refl (some (Value.int .i64 (j : Int))))
            have q2 := (blk_cell P3.out 2).trans (Eq.refl (some (Value.string s.d)))
            clear hrg
            obtain ⟨x0, x1, x2, x3⟩ := S3.out.cells hq
            rw [hz] at x0
            rw [hd] at x3
            clear hz hd
            have xf := blk_frozen S3.out.k
            have S4 := Aside0.mk (S3.out.set3 hq 0 zs false)
            go_upto_region 25 with fail
            clear x0 x1 x2 x3 xf S3
            have P4 : Aside0 ((((w3.setCell ⟨kb, q * 3, none⟩ (.int .i64 0)).setCell ⟨kb, q * 3 + 1, none⟩ (.string zs)).setCell ⟨kb, q * 3 + 2, none⟩ (.bool false)).heap[b8]? = some (.cells #[.int .i64 s.kind, .int .i64 (j : Int), .string s.d] 30 (0, 0))) := ⟨by
              have hne : b8 ≠ kb := by have := HB8.out.1; omega
              exact (Below.heap_setCell _ ⟨kb, q * 3 + 2, none⟩ _ b8 hne).trans ((Below.heap_setCell _ ⟨kb, q * 3 + 1, none⟩ _ b8 hne).trans ((Below.heap_setCell _ ⟨kb, q * 3, none⟩ _ b8 hne).trans P3.out))⟩
            have hzs : (⟨#[]⟩ : ByteArray) = zs := rfl
            try rw [hzs]
            clear hzs
            generalize ((w3.setCell ⟨kb, q * 3, none⟩ (.int .i64 0)).setCell ⟨kb, q * 3 + 1, none⟩ (.string zs)).setCell ⟨kb, q * 3 + 2, none⟩ (.bool false) = W4 at S4 P4 ⊢
            clear q1 q2
            have q1 := (blk_cell P4.out 1).trans (Eq.refl (some (Value.int .i64 (j : Int))))
            have q2 := (blk_cell P4.out 2).trans (Eq.refl (some (Value.string s.d)))
            obtain ⟨y0, y1, y2, y3⟩ := S4.out.cells hj
            have yf := blk_frozen S4.out.k
            have S9 : Aside0 (KS W _ cb n (i + 1) kb db r1 (knL r1) (ynL r1)) := ⟨by
              rw [HF.out.1, HF.out.2]
              exact S4.out.set3 hj 0 s.d true⟩
            have HHeld := Aside0.mk S9.out.c.held
            have hgt := gt_no S9.out.c
            unfold ptr at HHeld
            go_wp2_with fail
            refine HHeld.out.mono ?_
            rintro e w9 ⟨v, rfl, hr, hb⟩
            obtain ⟨A9, c9, rfl⟩ := own_slice hr
            have S10 := Aside0.mk (S9.out.below hb)
            clear hr hb HHeld
            go_wp2_with fail
            go_roundw
            case rel => exact ⟨i + 1, _, hlt, N1.out, S10⟩
            case measure => exact M1.out
      rcases Bool.eq_false_or_eq_true (s.kind == 2) with tk2 | tk2
      · as_aux_lemma =>
          have hP := Aside0.mk (C2.out.look s.k HT.out)
          have hLK := Aside0.mk (look_keeps L s.k)
          have hrgL := Aside0.mk C2.out.nb.2
          generalize lookS L s.k = r at hP hLK
          obtain ⟨r1, d, ok⟩ := r
          unfold ptr at hP
          go_wp2_with fail
          refine hP.out.mono ?_
          rintro e w3 ⟨rfl, hC, hK⟩
          have S3 := Aside0.mk (S2.out.step (fun k hk => .inl hk) hC hK)
          have P3 := Aside0.mk ((hK b8 (.inr rfl)).trans P1.out)
          clear hC hK hP q0 q1 q2 P1 C2 S2
          have hd : d = (knL L s.k).2.1 := hLK.out.1
          have hok : ok = (knL L s.k).2.2 := hLK.out.2.1
          subst hd
          subst hok
          have S3 : Aside0 (KS W w3 cb n (i + 1) kb db r1 (knL r1) (ynL r1)) := ⟨by
            rw [show knL r1 = knL L from hLK.out.2.2.1, show ynL r1 = ynL L from hLK.out.2.2.2]
            exact S3.out⟩
          have hkr := Aside0.mk (show knL r1 = knL L from hLK.out.2.2.1)
          have hba := below_alloc (Below.refl w3.heap.size w3) (.cells #[.int .i64 0, .string ⟨#[]⟩, .bool false] 50)
          have hPW := blk_new w3 (.cells #[.int .i64 0, .string ⟨#[]⟩, .bool false] 50)
          have P4 := Aside0.mk (blk_below P3.out hba)
          have S4 := Aside0.mk (S3.out.below hba)
          by_cases hrg : 0 ≤ s.k ∧ s.k < 1024
          · have HF : Aside0 True := ⟨trivial⟩
            generalize s.k = sk at P4 hrg HF ⊢
            obtain ⟨j, rfl⟩ : ∃ j : Nat, sk = j := ⟨sk.toNat, by omega⟩
            have hj : j < 1024 := by omega
            have hj0 : (0 : Int) ≤ (j : Int) := by omega
            have hj2 : (j : Int) < 1024 := by omega
            have g1 : decide ((j : Int) ≥ 0) = true := decide_eq_true (by omega)
            have g2 : decide ((j : Int) < 1024) = true := decide_eq_true (by omega)
            have q1 := (blk_cell P4.out 1).trans (Eq.refl (some (Value.int .i64 (j : Int))))
            have v0 := (blk_cell hPW 0).trans (Eq.refl (some (Value.int .i64 0)))
            have v1 := (blk_cell hPW 1).trans (Eq.refl (some (Value.string ⟨#[]⟩)))
            have v2 := (blk_cell hPW 2).trans (Eq.refl (some (Value.bool false)))
            have vf := blk_frozen hPW
            obtain ⟨y0, y1, y2, y3⟩ := S4.out.cells hj
            rw [hkr.out] at y0 y1 y2
            obtain ⟨⟨kp, kd, kt⟩, hkn⟩ : ∃ v, v = knL L (j : Int) := ⟨_, rfl⟩
            rw [← hkn] at y0 y1 y2 ⊢
            dsimp only at y0 y1 y2 ⊢
            clear hrg hkn
            have S9 := Aside0.mk (S3.out.below (below_alloc (Below.refl w3.heap.size w3) (.cells #[.int .i64 kp, .string kd, .bool kt] 50)))
            have HHeld := Aside0.mk S9.out.c.held
            have hgt := gt_no S9.out.c
            unfold ptr at HHeld
            go_wp2_with fail
            refine HHeld.out.mono ?_
            rintro e w9 ⟨v, rfl, hr, hb⟩
            obtain ⟨A9, c9, rfl⟩ := own_slice hr
            have S10 := Aside0.mk (S9.out.below hb)
            clear hr hb HHeld
            go_wp2_with fail
            go_roundw
            case rel => exact ⟨i + 1, _, hlt, N1.out, S10⟩
            case measure => exact M1.out
          · have hz : knL L s.k = k0 := by
              exact kn_none (fnd_miss fun f hf q => hrg (q ▸ hrgL.out f hf))
            rw [hz]
            have hcase : decide (s.k ≥ 0) = false ∨ (decide (s.k ≥ 0) = true ∧ decide (s.k < 1024) = false) := by
              by_cases h1 : 0 ≤ s.k
              · exact .inr ⟨decide_eq_true h1, decide_eq_false (by omega)⟩
              · exact .inl (decide_eq_false h1)
            have q1 := (blk_cell P4.out 1).trans (Eq.refl (some (Value.int .i64 s.k)))
            have v1 := (blk_cell hPW 1).trans (Eq.refl (some (Value.string ⟨#[]⟩)))
            have v2 := (blk_cell hPW 2).trans (Eq.refl (some (Value.bool false)))
            have S9 := S4
            clear hz hrg hPW
            unfold k0 zs
            dsimp only
            rcases hcase with g1 | ⟨g1, g2⟩
            all_goals
              have HHeld := Aside0.mk S9.out.c.held
              have hgt := gt_no S9.out.c
              unfold ptr at HHeld
              go_wp2_with fail
              refine HHeld.out.mono ?_
              rintro e w9 ⟨v, rfl, hr, hb⟩
              obtain ⟨A9, c9, rfl⟩ := own_slice hr
              have S10 := Aside0.mk (S9.out.below hb)
              clear hr hb HHeld
              go_wp2_with fail
              go_roundw
              case rel => exact ⟨i + 1, _, hlt, N1.out, S10⟩
              case measure => exact M1.out
      rcases Bool.eq_false_or_eq_true (s.kind == 3) with tk3 | tk3
      · as_aux_lemma =>
          have hP := Aside0.mk (C2.out.store s.k s.d HT.out)
          have hLK := store_keeps L s.k s.d
          generalize storeS L s.k s.d = r at hP hLK
          obtain ⟨r1, r3⟩ := r
          have hLK := Aside0.mk hLK
          unfold ptr at hP
          go_wp2_with fail
          refine hP.out.mono ?_
          rintro e w3 ⟨rfl, hC, hK⟩
          have S3 := Aside0.mk (S2.out.step (fun k hk => .inl hk) hC hK)
          have P3 := Aside0.mk ((hK b8 (.inr rfl)).trans P1.out)
          clear hC hK hP q0 q1 q2 P1 C2 S2
          rcases hLK.out with ⟨hne, hL⟩ | ⟨h0, hr, hk, hy⟩
          · have z : (r3 == 0) = false := by simpa using hne
            have S9 : Aside0 (KS W w3 cb n (i + 1) kb db r1 (knL r1) (ynL r1)) := ⟨by
              have hL : r1 = L := hL
              have h1 := S3.out
              rw [hL] at h1 ⊢
              exact h1⟩
            clear hne hL hLK
            have HHeld := Aside0.mk S9.out.c.held
            have hgt := gt_no S9.out.c
            unfold ptr at HHeld
            go_wp2_with fail
            refine HHeld.out.mono ?_
            rintro e w9 ⟨v, rfl, hr, hb⟩
            obtain ⟨A9, c9, rfl⟩ := own_slice hr
            have S10 := Aside0.mk (S9.out.below hb)
            clear hr hb HHeld
            go_wp2_with fail
            go_roundw
            case rel => exact ⟨i + 1, _, hlt, N1.out, S10⟩
            case measure => exact M1.out
          · have hrg := right_rng hr
            have h0 : r3 = 0 := h0
            subst h0
            have HF : Aside0 (knL r1 = updK (knL L) s.k ((knL L s.k).1, s.d, (knL L s.k).2.2) ∧ ynL r1 = updB (ynL L) s.k true) := ⟨hk, hy⟩
            clear hr hy hk hLK
            generalize s.k = sk at P3 hrg HF ⊢
            obtain ⟨j, rfl⟩ : ∃ j : Nat, sk = j := ⟨sk.toNat, by omega⟩
            have hj : j < 1024 := by omega
            have hj0 : (0 : Int) ≤ (j : Int) := by omega
            have hj2 : (j : Int) < 1024 := by omega
            have q1 := (blk_cell P3.out 1).trans (Eq.refl (some (Value.int .i64 (j : Int))))
            have q2 := (blk_cell P3.out 2).trans (Eq.refl (some (Value.string s.d)))
            clear hrg
            obtain ⟨y0, y1, y2, y3⟩ := S3.out.cells hj
            have yf := blk_frozen S3.out.k
            have yg := blk_frozen S3.out.y
            have S4 := Aside0.mk (S3.out.setD hj s.d)
            have hne : b8 ≠ kb := by have := HB8.out.1; omega
            have P4 := Aside0.mk ((Below.heap_setCell w3 ⟨kb, j * 3 + 1, none⟩ (.string s.d) b8 hne).trans P3.out)
            go_upto_region 36 with fail
            clear y0 y1 y2 y3 yf yg q1 q2 hne
            generalize w3.setCell ⟨kb, j * 3 + 1, none⟩ (.string s.d) = W4 at S4 P4 ⊢
            have q1 := (blk_cell P4.out 1).trans (Eq.refl (some (Value.int .i64 (j : Int))))
            obtain ⟨y0, y1, y2, y3⟩ := S4.out.cells hj
            have yg := blk_frozen S4.out.y
            have S9 : Aside0 (KS W _ cb n (i + 1) kb db r1 (knL r1) (ynL r1)) := ⟨by
              rw [HF.out.1, HF.out.2]
              exact S4.out.setY hj true⟩
            have HHeld := Aside0.mk S9.out.c.held
            have hgt := gt_no S9.out.c
            unfold ptr at HHeld
            go_wp2_with fail
            refine HHeld.out.mono ?_
            rintro e w9 ⟨v, rfl, hr, hb⟩
            obtain ⟨A9, c9, rfl⟩ := own_slice hr
            have S10 := Aside0.mk (S9.out.below hb)
            clear hr hb HHeld
            go_wp2_with fail
            go_roundw
            case rel => exact ⟨i + 1, _, hlt, N1.out, S10⟩
            case measure => exact M1.out
      rcases Bool.eq_false_or_eq_true (s.kind == 4) with tk4 | tk4
      · as_aux_lemma =>
          have hP := Aside0.mk (C2.out.pin s.k HT.out)
          have hLK := pin_keeps L s.k
          have hpin := Aside0.mk (cch_pins C2.out)
          have hrgL := Aside0.mk C2.out.nb.2
          generalize pinS L s.k = r at hP hLK
          obtain ⟨r1, r3⟩ := r
          have hLK := Aside0.mk hLK
          unfold ptr at hP
          go_wp2_with fail
          refine hP.out.mono ?_
          rintro e w3 ⟨rfl, hC, hK⟩
          have S3 := Aside0.mk (S2.out.step (fun k hk => .inl hk) hC hK)
          have P3 := Aside0.mk ((hK b8 (.inr rfl)).trans P1.out)
          clear hC hK hP q0 q1 q2 P1 C2 S2
          rcases hLK.out with ⟨hne, hL⟩ | ⟨h0, ⟨f, hf, hfb, hfp⟩, hk, hy⟩
          · have z : (r3 == 0) = false := by simpa using hne
            have S9 : Aside0 (KS W w3 cb n (i + 1) kb db r1 (knL r1) (ynL r1)) := ⟨by
              have hL : r1 = L := hL
              have h1 := S3.out
              rw [hL] at h1 ⊢
              exact h1⟩
            clear hne hL hLK
            have HHeld := Aside0.mk S9.out.c.held
            have hgt := gt_no S9.out.c
            unfold ptr at HHeld
            go_wp2_with fail
            refine HHeld.out.mono ?_
            rintro e w9 ⟨v, rfl, hr, hb⟩
            obtain ⟨A9, c9, rfl⟩ := own_slice hr
            have S10 := Aside0.mk (S9.out.below hb)
            clear hr hb HHeld
            go_wp2_with fail
            go_roundw
            case rel => exact ⟨i + 1, _, hlt, N1.out, S10⟩
            case measure => exact M1.out
          · have hrg : 0 ≤ s.k ∧ s.k < 1024 := by rw [← hfb]; exact hrgL.out f hf
            have h0 : r3 = 0 := h0
            subst h0
            have HF : Aside0 (knL r1 = updK (knL L) s.k ((knL L s.k).1 + 1, (knL L s.k).2.1, (knL L s.k).2.2) ∧ ynL r1 = ynL L ∧ wrap64 ((knL L s.k).1 + 1) = (knL L s.k).1 + 1) := ⟨hk, hy, by have h1 := hpin.out f hf; rw [← hfp] at h1; have h2 := HT.out; unfold wrap64; omega⟩
            clear hy hk hLK hf hfb hfp
            generalize s.k = sk at P3 hrg HF ⊢
            obtain ⟨j, rfl⟩ : ∃ j : Nat, sk = j := ⟨sk.toNat, by omega⟩
            have hj : j < 1024 := by omega
            have hj0 : (0 : Int) ≤ (j : Int) := by omega
            have hj2 : (j : Int) < 1024 := by omega
            have q1 := (blk_cell P3.out 1).trans (Eq.refl (some (Value.int .i64 (j : Int))))
            have q2 := (blk_cell P3.out 2).trans (Eq.refl (some (Value.string s.d)))
            clear hrg
            have S4 := Aside0.mk (S3.out.below (below_drew1 (Below.refl _ _)))
            have P4 := Aside0.mk (blk_below P3.out (below_drew1 (Below.refl _ _)))
            obtain ⟨y0, y1, y2, y3⟩ := S4.out.cells hj
            have yf := blk_frozen S4.out.k
            have u1 := (blk_cell P4.out 1).trans (Eq.refl (some (Value.int .i64 (j : Int))))
            have wr1 := HF.out.2.2
            have SA : Aside0 (KS W (w3.drew.setCell ⟨kb, j * 3, none⟩ (.int .i64 (wrap64 ((knL L (j : Int)).1 + 1)))) cb n (i + 1) kb db r1 (knL r1) (ynL r1)) := ⟨by
              rw [HF.out.1, HF.out.2.1]
              have h1 := S4.out.setP hj (wrap64 ((knL L (j : Int)).1 + 1))
              rw [wr1] at h1 ⊢
              exact h1⟩
            have SB : Aside0 (KS W (w3.setCell ⟨kb, j * 3, none⟩ (.int .i64 (wrap64 ((knL L (j : Int)).1 + 1)))).drew cb n (i + 1) kb db r1 (knL r1) (ynL r1)) := ⟨by
              rw [HF.out.1, HF.out.2.1]
              have h1 := (S3.out.setP hj (wrap64 ((knL L (j : Int)).1 + 1))).below (below_drew1 (Below.refl _ _))
              rw [wr1] at h1 ⊢
              exact h1⟩
            clear wr1
            go_wp2_with fail
            go_region
            all_goals
              have HA := Aside0.mk SA.out.c.held
              have HBB := Aside0.mk SB.out.c.held
              have hgt := gt_no SA.out.c
              unfold ptr at HA HBB
              go_wp2_with fail
              first
              | refine HA.out.mono ?_
                rintro e w9 ⟨v, rfl, hr, hb⟩
                have S10 := Aside0.mk (SA.out.below hb)
                revert hr S10
              | refine HBB.out.mono ?_
                rintro e w9 ⟨v, rfl, hr, hb⟩
                have S10 := Aside0.mk (SB.out.below hb)
                revert hr S10
              intro hr S10
              obtain ⟨A9, c9, rfl⟩ := own_slice hr
              clear hr
              go_wp2_with fail
              go_roundw
              case rel => exact ⟨i + 1, _, hlt, N1.out, S10⟩
              case measure => exact M1.out
      rcases Bool.eq_false_or_eq_true (s.kind == 5) with tk5 | tk5
      · as_aux_lemma =>
          have hP := Aside0.mk (C2.out.unpin s.k HT.out)
          have hLK := unpin_keeps L s.k
          have hpin := Aside0.mk (cch_pins C2.out)
          have hrgL := Aside0.mk C2.out.nb.2
          generalize unpinS L s.k = r at hP hLK
          obtain ⟨r1, r3⟩ := r
          have hLK := Aside0.mk hLK
          unfold ptr at hP
          go_wp2_with fail
          refine hP.out.mono ?_
          rintro e w3 ⟨rfl, hC, hK⟩
          have S3 := Aside0.mk (S2.out.step (fun k hk => .inl hk) hC hK)
          have P3 := Aside0.mk ((hK b8 (.inr rfl)).trans P1.out)
          clear hC hK hP q0 q1 q2 P1 C2 S2
          rcases hLK.out with ⟨hne, hL⟩ | ⟨h0, ⟨f, hf, hfb, hfp⟩, hk, hy⟩
          · have z : (r3 == 0) = false := by simpa using hne
            have S9 : Aside0 (KS W w3 cb n (i + 1) kb db r1 (knL r1) (ynL r1)) := ⟨by
              have hL : r1 = L := hL
              have h1 := S3.out
              rw [hL] at h1 ⊢
              exact h1⟩
            clear hne hL hLK
            have HHeld := Aside0.mk S9.out.c.held
            have hgt := gt_no S9.out.c
            unfold ptr at HHeld
            go_wp2_with fail
            refine HHeld.out.mono ?_
            rintro e w9 ⟨v, rfl, hr, hb⟩
            obtain ⟨A9, c9, rfl⟩ := own_slice hr
            have S10 := Aside0.mk (S9.out.below hb)
            clear hr hb HHeld
            go_wp2_with fail
            go_roundw
            case rel => exact ⟨i + 1, _, hlt, N1.out, S10⟩
            case measure => exact M1.out
          · have hrg : 0 ≤ s.k ∧ s.k < 1024 := by rw [← hfb]; exact hrgL.out f hf
            have h0 : r3 = 0 := h0
            subst h0
            have HF : Aside0 (knL r1 = updK (knL L) s.k ((knL L s.k).1 - 1, (knL L s.k).2.1, (knL L s.k).2.2) ∧ ynL r1 = ynL L ∧ wrap64 ((knL L s.k).1 - 1) = (knL L s.k).1 - 1) := ⟨hk, hy, by have h1 := hpin.out f hf; rw [← hfp] at h1; have h2 := HT.out; unfold wrap64; omega⟩
            clear hy hk hLK hf hfb hfp
            generalize s.k = sk at P3 hrg HF ⊢
            obtain ⟨j, rfl⟩ : ∃ j : Nat, sk = j := ⟨sk.toNat, by omega⟩
            have hj : j < 1024 := by omega
            have hj0 : (0 : Int) ≤ (j : Int) := by omega
            have hj2 : (j : Int) < 1024 := by omega
            have q1 := (blk_cell P3.out 1).trans (Eq.refl (some (Value.int .i64 (j : Int))))
            have q2 := (blk_cell P3.out 2).trans (Eq.refl (some (Value.string s.d)))
            clear hrg
            have S4 := Aside0.mk (S3.out.below (below_drew1 (Below.refl _ _)))
            have P4 := Aside0.mk (blk_below P3.out (below_drew1 (Below.refl _ _)))
            obtain ⟨y0, y1, y2, y3⟩ := S4.out.cells hj
            have yf := blk_frozen S4.out.k
            have u1 := (blk_cell P4.out 1).trans (Eq.refl (some (Value.int .i64 (j : Int))))
            have wr1 := HF.out.2.2
            have SA : Aside0 (KS W (w3.drew.setCell ⟨kb, j * 3, none⟩ (.int .i64 (wrap64 ((knL L (j : Int)).1 - 1)))) cb n (i + 1) kb db r1 (knL r1) (ynL r1)) := ⟨by
              rw [HF.out.1, HF.out.2.1]
              have h1 := S4.out.setP hj (wrap64 ((knL L (j : Int)).1 - 1))
              rw [wr1] at h1 ⊢
              exact h1⟩
            have SB : Aside0 (KS W (w3.setCell ⟨kb, j * 3, none⟩ (.int .i64 (wrap64 ((knL L (j : Int)).1 - 1)))).drew cb n (i + 1) kb db r1 (knL r1) (ynL r1)) := ⟨by
              rw [HF.out.1, HF.out.2.1]
              have h1 := (S3.out.setP hj (wrap64 ((knL L (j : Int)).1 - 1))).below (below_drew1 (Below.refl _ _))
              rw [wr1] at h1 ⊢
              exact h1⟩
            clear wr1
            go_wp2_with fail
            go_region
            all_goals
              have HA := Aside0.mk SA.out.c.held
              have HBB := Aside0.mk SB.out.c.held
              have hgt := gt_no SA.out.c
              unfold ptr at HA HBB
              go_wp2_with fail
              first
              | refine HA.out.mono ?_
                rintro e w9 ⟨v, rfl, hr, hb⟩
                have S10 := Aside0.mk (SA.out.below hb)
                revert hr S10
              | refine HBB.out.mono ?_
                rintro e w9 ⟨v, rfl, hr, hb⟩
                have S10 := Aside0.mk (SB.out.below hb)
                revert hr S10
              intro hr S10
              obtain ⟨A9, c9, rfl⟩ := own_slice hr
              clear hr
              go_wp2_with fail
              go_roundw
              case rel => exact ⟨i + 1, _, hlt, N1.out, S10⟩
              case measure => exact M1.out
      · as_aux_lemma =>
          have hP := Aside0.mk (S2.out.c.take)
          unfold ptr at hP
          have HFa : Aside0 (∀ (j : Nat) (c : Int × ByteArray), (tookS L)[j]? = some c → ynL (cleanS L (((tookS L).take j).map (·.1))) c.1 = true ∧ (knL L c.1).2.1 = c.2) := ⟨fun j c hj => took_facts C2.out.nb.1 hj⟩
          have HR : Aside0 (∀ x ∈ tookS L, 0 ≤ x.1 ∧ x.1 < 1024) := ⟨fun x hx => by
            obtain ⟨f, hf, q, _⟩ := dirty_mem (List.mem_of_mem_take hx)
            rw [← q]
            exact C2.out.nb.2 f hf⟩
          have HSl : Aside0 ((tookS L).length ≤ 48) := ⟨by unfold tookS; exact List.length_take_le ..⟩
          have HTk : Aside0 (takeS L = cleanS L ((tookS L).map (·.1))) := ⟨rfl⟩
          generalize tookS L = S at hP HFa HR HSl HTk
          generalize takeS L = L' at hP HTk
          go_wp2_with fail
          refine hP.out.mono ?_
          rintro e w3 ⟨v, rfl, hr, hC, hK⟩
          obtain ⟨A3, c3, rfl⟩ := own_slice hr
          have S3 := Aside0.mk (S2.out.step (X := XS kb db) (fun k hk => hk) (hC.sub fun k hk => .inl hk) hK)
          have HB3 : Aside0 (db < W2.heap.size) := ⟨blk_lt S2.out.y⟩
          have Z3 : Aside0 (KS W w3 cb n (i + 1) kb db L' (knL L) (ynL (cleanS L ((S.take 0).map (·.1)))) ∧ w3.ownsRow W2.heap.size 37 2 (.slice A3 S.length c3) S.length (flatC S)) := ⟨by rw [List.take_zero]; show KS W w3 cb n (i + 1) kb db L' (knL L) (ynL (cleanS L [])); rw [cleanS_nil]; exact S3.out, hr⟩
          clear hr hC hK hP q0 q1 q2 P1 C2 S2 S3
          generalize W2.heap.size = bR at Z3 HB3
          go_wp2_with fail
          go_loopw [53] (fun z wi => ∃ j : Nat, j ≤ S.length ∧ z = .int .i64 j ∧ Aside0 (KS W wi cb n (i + 1) kb db L' (knL L) (ynL (cleanS L ((S.take j).map (·.1)))) ∧ wi.ownsRow bR 37 2 (.slice A3 S.length c3) S.length (flatC S))) (fun z _ => S.length - (intOf z).toNat)
          case atStart => exact ⟨0, by omega, rfl, Z3⟩
          case round =>
            obtain ⟨j, hj, rfl, I⟩ := hrel
            clear Z3
            by_cases hlj : j < S.length
            · obtain ⟨x, hx⟩ : ∃ x, S[j]? = some x := ⟨_, List.getElem?_eq_getElem hlj⟩
              have hb2 : decide ((j : Int) < (S.length : Int)) = true := decide_eq_true (by omega)
              have hrg := HR.out x (List.mem_of_getElem? hx)
              obtain ⟨hfy, hfd⟩ := HFa.out j x hx
              have hlist : (S.take (j + 1)).map (·.1) = (S.take j).map (·.1) ++ [x.1] := by rw [List.take_add_one, hx, Option.toList_some, List.map_append]; rfl
              obtain ⟨xk, xd⟩ := x
              obtain ⟨g, rfl, x0, x1⟩ := crow_at I.out.2 hx
              obtain ⟨q, rfl⟩ : ∃ q : Nat, xk = q := ⟨xk.toNat, by have := hrg.1; dsimp only at this; omega⟩
              have hq : q < 1024 := by have := hrg.2; dsimp only at this; omega
              have hq0 : decide ((q : Int) < 0) = false := decide_eq_false (by omega)
              have hq1 : decide ((q : Int) > 1023) = false := decide_eq_false (by omega)
              have hq2 : (0 : Int) ≤ (q : Int) := by omega
              have hq3 : (q : Int) < 1024 := by omega
              have PX := Aside0.mk (blk_new wr (.cells #[.int .i64 (q : Int), .string xd] 37))
              have hbx := below_alloc (Below.refl wr.heap.size wr) (.cells #[.int .i64 (q : Int), .string xd] 37)
              have hbx2 : Below wr.heap.size wr (wr.alloc (.cells #[.int .i64 (q : Int), .string xd] 37)).drew := below_drew1 hbx
              have I2 := Aside0.mk (And.intro (I.out.1.below hbx2) (own_below I.out.2 hbx2))
              have PD := Aside0.mk (blk_drew PX.out)
              have HU := Aside0.mk hlist
              have HFy := Aside0.mk hfy
              have HFd := Aside0.mk hfd
              have N2 := Aside0.mk (nxt j S.length hlj (Nat.le_trans HSl.out (by decide)))
              have M2 := Aside0.mk (meas j S.length hlj (Nat.le_trans HSl.out (by decide)))
              clear hx hbx hbx2 hrg hfy hfd hlist
              dsimp only at x0 x1
              go_upto_region 13 with fail
              generalize wr.alloc (.cells #[.int .i64 (q : Int), .string xd] 37) = W9 at PX PD I2 ⊢
              generalize wr.heap.size = b9 at PX PD ⊢
              clear x0 x1 I
              have p0 := (blk_cell PD.out 0).trans (Eq.refl (some (Value.int .i64 (q : Int))))
              have p1 := (blk_cell PD.out 1).trans (Eq.refl (some (Value.string xd)))
              obtain ⟨y0, y1, y2, y3⟩ := I2.out.1.cells hq
              have hfy := HFy.out
              have hfd := HFd.out
              dsimp only at hfy hfd
              rw [hfd] at y1
              rw [hfy] at y3
              have yg := blk_frozen I2.out.1.y
              have I3 : Aside0 (KS W (W9.drew.setCell ⟨db, q, none⟩ (.bool false)) cb n (i + 1) kb db L' (knL L) (ynL (cleanS L ((S.take (j + 1)).map (·.1)))) ∧ (W9.drew.setCell ⟨db, q, none⟩ (.bool false)).ownsRow bR 37 2 (.slice (some ⟨g, 0, none⟩) S.length c3) S.length (flatC S)) := ⟨by
                refine ⟨by rw [HU.out, yn_clean]; exact I2.out.1.setY hq false, own_keep I2.out.2 fun k hk _ => Below.heap_setCell W9.drew ⟨db, q, none⟩ _ k (fun e => by have h1 := HB3.out; have e : k = db := e; omega)⟩⟩
              clear I2 hfy hfd HFy HFd
              go_region
              all_goals
                go_wp2_with fail
                go_roundw
                case rel => exact ⟨j + 1, hlj, N2.out, I3⟩
                case measure => exact M2.out
            · obtain rfl : j = S.length := by omega
              have hb2 : decide ((S.length : Int) < (S.length : Int)) = false := decide_eq_false (by omega)
              have S9 : Aside0 (KS W wr cb n (i + 1) kb db L' (knL L') (ynL L')) := ⟨by
                have h1 := I.out.1
                rw [List.take_length] at h1
                rw [HTk.out, kn_clean]
                rw [HTk.out] at h1
                exact h1⟩
              clear I
              have HHeld := Aside0.mk S9.out.c.held
              have hgt := gt_no S9.out.c
              unfold ptr at HHeld
              go_wp2_with fail
              refine HHeld.out.mono ?_
              rintro e w9 ⟨v, rfl, hr, hb⟩
              obtain ⟨A9, c9, rfl⟩ := own_slice hr
              have S10 := Aside0.mk (S9.out.below hb)
              clear hr hb HHeld
              go_wp2_with fail
              go_roundw
              case rel => exact ⟨i + 1, _, hlt, N1.out, S10⟩
              case measure => exact M1.out
    · obtain rfl : i = l.length := by omega
      have hb1 : decide ((l.length : Int) < (l.length : Int)) = false := decide_eq_false (by omega)
      go_wp2_with fail
      refine (speaks_calls _).mono ?_
      rintro e w7 ⟨rfl, hb⟩
      have B7 := Aside0.mk (H.out.c.bel.trans (hb.mono H.out.c.bel.size))
      clear hb
      go_wp2_with fail
      go_ret
      exact ⟨rfl, B7.out⟩
theorem CacheKeeps (W : World) (n : Int) (hw : (Lit.int .i64 n).wf = true) (A : Option Addr) (k c : Nat) (l : List Step) (h : (Kd.slice 30 stepK).K W l [.slice A k c]) (hg : True) :
    Calls Try.prog 6 #[.int .i64 n, .slice A k c] W fun e W' => e = .returned (.bool true) ∧ Below W.heap.size W W' := by
  obtain ⟨A1, c1, he, hcc, hC⟩ := h
  obtain ⟨rfl, rfl, rfl⟩ : A = A1 ∧ k = l.length ∧ c = c1 := by simpa using he
  by_cases h1 : n < 1 ∨ 64 < n
  · exact keeps_no W n A l.length c h1
  · by_cases hn : l.length ≤ 500
    · exact keeps_short W n A c l (by omega) (by omega) hC hn
    · exact keeps_long W n A l.length c (by omega) (by omega) (by omega)
end Go.Proofs.Ytikefafpkclgeaa.Core
