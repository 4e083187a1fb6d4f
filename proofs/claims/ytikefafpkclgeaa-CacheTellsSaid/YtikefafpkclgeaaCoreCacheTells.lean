/- The walk of the law CacheTells. -/
import Derived.Test.YtikefafpkclgeaaCacheA
set_option linter.unusedVariables false
set_option linter.unusedSimpArgs false
namespace Go.Proofs.Ytikefafpkclgeaa.Core
open Go.RowKit Go.Proofs.YtikefafpkclgeaaW.PrintWords Go.Proofs.YtikefafpkclgeaaW.PrintLast Go.Proofs.YtikefafpkclgeaaW.PrintMore Go.Proofs.Ytikefafpkclgeaa.Maps Go.Proofs.Ytikefafpkclgeaa.CacheS Go.Proofs.Ytikefafpkclgeaa.Cache
def XS (sb tb k : Nat) : Prop := k = sb ∨ k = tb
structure TS (W w : World) (cb : Nat) (n : Int) (T sb tb : Nat) (L : List F) (st tk : Int → ByteArray) : Prop where
  c : Cch W w cb n T (XS sb tb) L
  s : w.heap[sb]? = some (.cells (arrS st) 28 (0, 0))
  t : w.heap[tb]? = some (.cells (arrS tk) 28 (0, 0))
  ne : sb ≠ tb
  bs : W.heap.size ≤ sb
  bt : W.heap.size ≤ tb
section
variable {W w w' : World} {cb : Nat} {n : Int} {T sb tb : Nat} {L L' : List F} {st tk : Int → ByteArray}
theorem TS.ge (h : TS W w cb n T sb tb L st tk) (k : Nat) (hk : XS sb tb k) : W.heap.size ≤ k := by
  have h1 := h.bs
  have h2 := h.bt
  rcases hk with hk | hk <;> omega
theorem TS.below (h : TS W w cb n T sb tb L st tk) (hb : Below w.heap.size w w') : TS W w' cb n T sb tb L st tk := ⟨h.c.below hb, blk_below h.s hb, blk_below h.t hb, h.ne, h.bs, h.bt⟩
theorem TS.up (h : TS W w cb n T sb tb L st tk) {T' : Nat} (hT : T ≤ T') : TS W w cb n T' sb tb L st tk := ⟨h.c.up hT, h.s, h.t, h.ne, h.bs, h.bt⟩
theorem TS.step (h : TS W w cb n T sb tb L st tk) {T' : Nat} {X : Nat → Prop} (hX : ∀ k, XS sb tb k → X k) (hC : Cch W w' cb n T' X L') (hK : Keep X w w') : TS W w' cb n T' sb tb L' st tk := ⟨hC.sub hX, (hK sb (hX sb (.inl rfl))).trans h.s, (hK tb (hX tb (.inr rfl))).trans h.t, h.ne, h.bs, h.bt⟩
theorem TS.setS (h : TS W w cb n T sb tb L st tk) {j : Nat} (hj : j < 1024) (d : ByteArray) : TS W (w.setCell ⟨sb, j, none⟩ (.string d)) cb n T sb tb L (upd st (j : Int) d) tk := by
  have hF := fr_set1 w sb j (.string d)
  refine ⟨h.c.other ⟨hF.os, hF.tape, hF.output, hF.size, fun k hk hn => hF.block k hk (fun q => hn (.inl q))⟩ h.ge, ?_, (Below.heap_setCell w ⟨sb, j, none⟩ _ tb (fun q => h.ne q.symm)).trans h.t, h.ne, h.bs, h.bt⟩
  rw [blk_set h.s j _, arrS_set st hj d]
theorem TS.setT (h : TS W w cb n T sb tb L st tk) {j : Nat} (hj : j < 1024) (d : ByteArray) : TS W (w.setCell ⟨tb, j, none⟩ (.string d)) cb n T sb tb L st (upd tk (j : Int) d) := by
  have hF := fr_set1 w tb j (.string d)
  refine ⟨h.c.other ⟨hF.os, hF.tape, hF.output, hF.size, fun k hk hn => hF.block k hk (fun q => hn (.inr q))⟩ h.ge, (Below.heap_setCell w ⟨tb, j, none⟩ _ sb h.ne).trans h.s, ?_, h.ne, h.bs, h.bt⟩
  rw [blk_set h.t j _, arrS_set tk hj d]
end
set_option maxHeartbeats 3200000 in
set_option maxRecDepth 100000 in
theorem tells_no (W : World) (n : Int) (A : Option Addr) (k c : Nat) (hn : n < 1 ∨ 64 < n) :
    Calls Try.prog 3 #[.int .i64 n, .slice A k c] W fun e W' => e = .returned (.bool true) ∧ Below W.heap.size W W' := by
  have hup := Try.underlying23
  have HN := Aside0.mk hn
  clear hn
  go_enter Try.func3, Try.ntmps3
  go_wp2_with fail
  refine (new_no n W HN.out).mono ?_
  rintro e w1 ⟨rfl, hb⟩
  have B1 := Aside0.mk hb
  clear hb
  go_wp2_with fail
  refine (speaks_calls _).mono ?_
  rintro e w3 ⟨rfl, hb⟩
  have B3 := Aside0.mk (B1.out.trans (hb.mono B1.out.size))
  clear hb
  go_wp2_with fail
  go_ret
  exact ⟨rfl, B3.out⟩
set_option maxHeartbeats 3200000 in
set_option maxRecDepth 100000 in
theorem tells_long (W : World) (n : Int) (A : Option Addr) (k c : Nat) (h1 : 1 ≤ n) (h7 : n ≤ 64) (hk : 500 < k) :
    Calls Try.prog 3 #[.int .i64 n, .slice A k c] W fun e W' => e = .returned (.bool true) ∧ Below W.heap.size W W' := by
  have hup := Try.underlying23
  have HN := Aside0.mk (And.intro h1 h7)
  have b1 : decide ((k : Int) > 500) = true := decide_eq_true (by omega)
  clear h1 h7 hk
  go_enter Try.func3, Try.ntmps3
  go_wp2_with fail
  refine (new_yes n W W.heap.size (Nat.le_refl _) HN.out.1 HN.out.2).mono ?_
  rintro e w1 ⟨cb, mb, rfl, hI, hB, -⟩
  have B1 := Aside0.mk hB
  clear hI hB
  unfold ptr
  go_wp2_with fail
  refine (speaks_calls _).mono ?_
  rintro e w3 ⟨rfl, hb⟩
  have B3 := Aside0.mk (B1.out.trans (hb.mono B1.out.size))
  clear hb
  go_wp2_with fail
  go_ret
  exact ⟨rfl, B3.out⟩
set_option maxHeartbeats 51200000 in
set_option maxRecDepth 100000 in
theorem tells_short (W : World) (n : Int) (A : Option Addr) (c : Nat) (l : List Step) (h1 : 1 ≤ n) (h7 : n ≤ 64) (hC : Kd.C stepK W A l.length l) (hn : l.length ≤ 500) :
    Calls Try.prog 3 #[.int .i64 n, .slice A l.length c] W fun e W' => e = .returned (.bool true) ∧ Below W.heap.size W W' := by
  have hup := Try.underlying23
  have hus := Try.underlying30
  have huc := Try.underlying37
  have hua := Try.underlying28
  have HC := Aside0.mk hC
  have HL := Aside0.mk hn
  have HN := Aside0.mk (And.intro h1 h7)
  have b1 : decide ((l.length : Int) > 500) = false := decide_eq_false (by omega)
  clear hC hn h1 h7
  go_enter Try.func3, Try.ntmps3
  go_wp2_with fail
  refine (new_yes n W W.heap.size (Nat.le_refl _) HN.out.1 HN.out.2).mono ?_
  rintro e w1 ⟨cb, mb, rfl, hI, hB, -⟩
  have ha1 := below_alloc (Below.refl w1.heap.size w1) (.cells Try.zeroCells28 28)
  have ha2 := below_alloc (Below.refl (w1.alloc (.cells Try.zeroCells28 28)).heap.size (w1.alloc (.cells Try.zeroCells28 28))) (.cells Try.zeroCells28 28)
  have C1 : Aside0 (TS W ((w1.alloc (.cells Try.zeroCells28 28)).alloc (.cells Try.zeroCells28 28)) cb n 0 w1.heap.size (w1.heap.size + 1) [] (fun _ => zs) (fun _ => zs)) := ⟨by
    have hc : Cch W w1 cb n 0 (fun _ => False) [] := Cch.new hI hB _ (fun k hk => hk.elim)
    have hs1 : (w1.alloc (.cells Try.zeroCells28 28)).heap.size = w1.heap.size + 1 := by simp
    have hs2 : ((w1.alloc (.cells Try.zeroCells28 28)).alloc (.cells Try.zeroCells28 28)).heap.size = w1.heap.size + 2 := by simp
    have hp1 := blk_alloc (blk_new w1 (.cells Try.zeroCells28 28)) (.cells Try.zeroCells28 28)
    have hp2 := blk_new (w1.alloc (.cells Try.zeroCells28 28)) (.cells Try.zeroCells28 28)
    rw [hs1] at hp2
    refine ⟨((hc.more ha1).more ha2).sub fun k hk => ?_, hp1.trans (by rw [zero_arr]), hp2.trans (by rw [zero_arr]), by omega, hB.size, Nat.le_succ_of_le hB.size⟩
    rcases hk with hk | hk
    · exact .inl (.inr ⟨by omega, by omega⟩)
    · exact .inr ⟨by omega, by omega⟩⟩
  clear hI hB ha1 ha2
  unfold ptr
  go_upto_region 6 with fail
  generalize (w1.alloc (.cells Try.zeroCells28 28)).alloc (.cells Try.zeroCells28 28) = WA at C1 ⊢
  generalize w1.heap.size + 1 = tb at C1 ⊢
  generalize w1.heap.size = sb at C1 ⊢
  go_wp2_with fail
  go_loopw [41] (fun z wr => ∃ (i : Nat) (L : List F) (st tk : Int → ByteArray), i ≤ l.length ∧ z = .int .i64 i ∧ Aside0 (TS W wr cb n i sb tb L st tk) ∧ Aside0 (Inv L st tk)) (fun z _ => l.length - (intOf z).toNat)
  case atStart => exact ⟨0, [], _, _, by omega, rfl, C1, ⟨Inv.nil zs⟩⟩
  case round =>
    obtain ⟨i, L, st, tk, hi, rfl, H, HV⟩ := hrel
    clear C1
    by_cases hlt : i < l.length
    · obtain ⟨s, hs⟩ : ∃ s, l[i]? = some s := ⟨_, List.getElem?_eq_getElem hlt⟩
      obtain ⟨ad, rfl, hcs⟩ := step_at HC.out hs
      obtain ⟨e0, e1, e2⟩ := hcs wr H.out.c.bel
      have hb1 : decide ((i : Int) < (l.length : Int)) = true := decide_eq_true (by omega)
      have P1 := Aside0.mk (blk_new wr (.cells #[.int .i64 s.kind, .int .i64 s.k, .string s.d] 30))
      have hbs := below_alloc (Below.refl wr.heap.size wr) (.cells #[.int .i64 s.kind, .int .i64 s.k, .string s.d] 30)
      have S2 := Aside0.mk (H.out.below hbs)
      have C2 : Aside0 (Cch W (wr.alloc (.cells #[.int .i64 s.kind, .int .i64 s.k, .string s.d] 30)) cb n i (fun k => XS sb tb k ∨ k = wr.heap.size) L) := ⟨(H.out.c.more hbs).sub fun k hk => by
        rcases hk with hk | hk
        · exact .inl hk
        · exact .inr (by rw [hk]; exact ⟨Nat.le_refl _, by simp⟩)⟩
      have HT : Aside0 (i < 1000000) := ⟨by have := HL.out; omega⟩
      have N1 := Aside0.mk (nxt i l.length hlt (Nat.le_trans HL.out (by decide)))
      have M1 := Aside0.mk (meas i l.length hlt (Nat.le_trans HL.out (by decide)))
      clear hs hcs hbs
      go_upto_region 9 with fail
      generalize wr.alloc (.cells #[.int .i64 s.kind, .int .i64 s.k, .string s.d] 30) = W2 at P1 C2 S2 ⊢
      generalize wr.heap.size = b8 at P1 C2 ⊢
      clear e0 e1 e2 H
      have q0 := (blk_cell P1.out 0).trans (Eq.refl (some (Value.int .i64 s.kind)))
      have q1 := (blk_cell P1.out 1).trans (Eq.refl (some (Value.int .i64 s.k)))
      have q2 := (blk_cell P1.out 2).trans (Eq.refl (some (Value.string s.d)))
      rcases Bool.eq_false_or_eq_true (s.kind == 0) with k0 | k0
      · have hP := Aside0.mk (C2.out.load s.k s.d HN.out.1 HT.out)
        have hV2 := Aside0.mk (@Inv.load n L s.k s.d st tk HV.out C2.out.nb.1)
        unfold ptr at hP
        generalize loadS n L s.k s.d = r at hP hV2
        obtain ⟨r1, r2, r3⟩ := r
        go_wp2_with fail
        refine hP.out.mono ?_
        rintro e w3 ⟨rfl, hC, hK⟩
        have S3 := Aside0.mk (S2.out.step (fun k hk => .inl hk) hC hK)
        clear hC hK hP q0 q1 q2 P1 C2 S2
        go_wp2_with fail
        go_roundw
        case rel => exact ⟨i + 1, _, _, _, hlt, N1.out, S3, hV2⟩
        case measure => exact M1.out
      rcases Bool.eq_false_or_eq_true (s.kind == 1) with k1 | k1
      · have hP := Aside0.mk (C2.out.load s.k s.d HN.out.1 HT.out)
        have hV2 := Aside0.mk (@Inv.load n L s.k s.d st tk HV.out C2.out.nb.1)
        unfold ptr at hP
        generalize loadS n L s.k s.d = r at hP hV2
        obtain ⟨r1, r2, r3⟩ := r
        go_wp2_with fail
        refine hP.out.mono ?_
        rintro e w3 ⟨rfl, hC, hK⟩
        have S3 := Aside0.mk (S2.out.step (fun k hk => .inl hk) hC hK)
        clear hC hK hP q0 q1 q2 P1 C2 S2
        go_wp2_with fail
        go_roundw
        case rel => exact ⟨i + 1, _, _, _, hlt, N1.out, S3, hV2⟩
        case measure => exact M1.out
      rcases Bool.eq_false_or_eq_true (s.kind == 3) with k3 | k3
      · have hP := Aside0.mk (C2.out.store s.k s.d HT.out)
        have hInv := Aside0.mk (@Inv.store L s.k s.d st tk HV.out)
        have hCs := Aside0.mk (store_cases L s.k s.d)
        unfold ptr at hP
        generalize storeS L s.k s.d = r at hP hInv hCs
        obtain ⟨r1, r3⟩ := r
        go_wp2_with fail
        refine hP.out.mono ?_
        rintro e w3 ⟨rfl, hC, hK⟩
        have S3 := Aside0.mk (S2.out.step (fun k hk => .inl hk) hC hK)
        have P3 := Aside0.mk ((hK b8 (.inr rfl)).trans P1.out)
        clear hC hK hP q0 q1 q2 P1 C2 S2
        rcases Bool.eq_false_or_eq_true (r3 == 0) with z | z
        · have hV2 := hInv.out (by simpa using z)
          have hrg : 0 ≤ s.k ∧ s.k < 1024 := by
            rcases hCs.out with ⟨q1, _⟩ | ⟨_, q2, _⟩
            · exact absurd (by simpa using z) q1
            · exact right_rng q2
          clear hInv hCs
          generalize s.k = sk at P3 hV2 hrg ⊢
          obtain ⟨j, rfl⟩ : ∃ j : Nat, sk = j := ⟨sk.toNat, by omega⟩
          have hj : j < 1024 := by omega
          have hj0 : (0 : Int) ≤ (j : Int) := by omega
          have hj2 : (j : Int) < 1024 := by omega
          have q1 := (blk_cell P3.out 1).trans (Eq.refl (some (Value.int .i64 (j : Int))))
          have q2 := (blk_cell P3.out 2).trans (Eq.refl (some (Value.string s.d)))
          have y1 := (blk_cell S3.out.s j).trans (arrS_at st hj)
          have yf := blk_frozen S3.out.s j
          have S4 := Aside0.mk (S3.out.setS hj s.d)
          have V4 := Aside0.mk hV2
          clear hV2 hrg
          go_wp2_with fail
          go_roundw
          case rel => exact ⟨i + 1, _, _, _, hlt, N1.out, S4, V4⟩
          case measure => exact M1.out
        · have V3 : Aside0 (Inv r1 st tk) := ⟨by
            rcases hCs.out with ⟨_, q2⟩ | ⟨q1, _⟩
            · have q2 : r1 = L := q2
              rw [q2]; exact HV.out
            · exact absurd q1 (by simpa using z)⟩
          go_wp2_with fail
          go_roundw
          case rel => exact ⟨i + 1, _, _, _, hlt, N1.out, S3, V3⟩
          case measure => exact M1.out
      rcases Bool.eq_false_or_eq_true (s.kind == 6) with k6 | k6
      · have hP := Aside0.mk (S2.out.c.take)
        unfold ptr at hP
        have hV2 := Aside0.mk HV.out.take
        have HR : Aside0 (∀ x ∈ tookS L, 0 ≤ x.1 ∧ x.1 < 1024) := ⟨fun x hx => by
          obtain ⟨f, hf, q, _⟩ := dirty_mem (List.mem_of_mem_take hx)
          rw [← q]
          exact C2.out.nb.2 f hf⟩
        have HSl : Aside0 ((tookS L).length ≤ 48) := ⟨by unfold tookS; exact List.length_take_le ..⟩
        generalize tookS L = S at hP hV2 HR HSl
        generalize takeS L = L' at hP hV2
        go_wp2_with fail
        refine hP.out.mono ?_
        rintro e w3 ⟨v, rfl, hr, hC, hK⟩
        obtain ⟨A3, c3, rfl⟩ := own_slice hr
        have S3 := Aside0.mk (S2.out.step (X := XS sb tb) (fun k hk => hk) (hC.sub fun k hk => .inl hk) hK)
        have HB3 : Aside0 (tb < W2.heap.size) := ⟨blk_lt S2.out.t⟩
        have Z3 : Aside0 (TS W w3 cb n (i + 1) sb tb L' st (tkUp tk S 0) ∧ w3.ownsRow W2.heap.size 37 2 (.slice A3 S.length c3) S.length (flatC S)) := ⟨by rw [tkUp_zero]; exact S3.out, hr⟩
        clear hr hC hK hP q0 q1 q2 P1 C2 S2 S3
        generalize W2.heap.size = bR at Z3 HB3
        go_wp2_with fail
        go_loopw [75] (fun z wi => ∃ j : Nat, j ≤ S.length ∧ z = .int .i64 j ∧ Aside0 (TS W wi cb n (i + 1) sb tb L' st (tkUp tk S j) ∧ wi.ownsRow bR 37 2 (.slice A3 S.length c3) S.length (flatC S))) (fun z _ => S.length - (intOf z).toNat)
        case atStart => exact ⟨0, by omega, rfl, Z3⟩
        case round =>
          obtain ⟨j, hj, rfl, I⟩ := hrel
          clear Z3
          by_cases hlj : j < S.length
          · obtain ⟨x, hx⟩ : ∃ x, S[j]? = some x := ⟨_, List.getElem?_eq_getElem hlj⟩
            have hb2 : decide ((j : Int) < (S.length : Int)) = true := decide_eq_true (by omega)
            have hrg := HR.out x (List.mem_of_getElem? hx)
            obtain ⟨xk, xd⟩ := x
            obtain ⟨g, rfl, x0, x1⟩ := crow_at I.out.2 hx
            obtain ⟨q, rfl⟩ : ∃ q : Nat, xk = q := ⟨xk.toNat, by have := hrg.1; dsimp only at this; omega⟩
            have hq : q < 1024 := by have := hrg.2; dsimp only at this; omega
            have hq0 : decide ((q : Int) ≥ 0) = true := decide_eq_true (by omega)
            have hq1 : decide ((q : Int) < 1024) = true := decide_eq_true (by omega)
            have hq2 : (0 : Int) ≤ (q : Int) := by omega
            have hq3 : (q : Int) < 1024 := by omega
            have PX := Aside0.mk (blk_new wr (.cells #[.int .i64 (q : Int), .string xd] 37))
            have hbx := below_alloc (Below.refl wr.heap.size wr) (.cells #[.int .i64 (q : Int), .string xd] 37)
            have I2 := Aside0.mk (And.intro (I.out.1.below hbx) (own_below I.out.2 hbx))
            have HU := Aside0.mk (tkUp_next (tk := tk) hx)
            have N2 := Aside0.mk (nxt j S.length hlj (Nat.le_trans HSl.out (by decide)))
            have M2 := Aside0.mk (meas j S.length hlj (Nat.le_trans HSl.out (by decide)))
            clear hx hbx hrg
            dsimp only at x0 x1
            go_upto_region 20 with fail
            generalize wr.alloc (.cells #[.int .i64 (q : Int), .string xd] 37) = W9 at PX I2 ⊢
            generalize wr.heap.size = b9 at PX ⊢
            clear x0 x1 I
            have p0 := (blk_cell PX.out 0).trans (Eq.refl (some (Value.int .i64 (q : Int))))
            have p1 := (blk_cell PX.out 1).trans (Eq.refl (some (Value.string xd)))
            have y1 := (blk_cell I2.out.1.t q).trans (arrS_at (tkUp tk S j) hq)
            have yf := blk_frozen I2.out.1.t q
            have I3 : Aside0 (TS W (W9.setCell ⟨tb, q, none⟩ (.string xd)) cb n (i + 1) sb tb L' st (tkUp tk S (j + 1)) ∧ (W9.setCell ⟨tb, q, none⟩ (.string xd)).ownsRow bR 37 2 (.slice (some ⟨g, 0, none⟩) S.length c3) S.length (flatC S)) := ⟨by
              refine ⟨by rw [HU.out]; exact I2.out.1.setT hq xd, own_keep I2.out.2 fun k hk _ => Below.heap_setCell W9 ⟨tb, q, none⟩ _ k (fun e => by have h1 := HB3.out; have e : k = tb := e; omega)⟩⟩
            clear I2
            go_wp2_with fail
            go_roundw
            case rel => exact ⟨j + 1, hlj, N2.out, I3⟩
            case measure => exact M2.out
          · obtain rfl : j = S.length := by omega
            have hb2 : decide ((S.length : Int) < (S.length : Int)) = false := decide_eq_false (by omega)
            have S4 := Aside0.mk I.out.1
            clear I
            go_wp2_with fail
            go_roundw
            case rel => exact ⟨i + 1, _, _, _, hlt, N1.out, S4, hV2⟩
            case measure => exact M1.out
      · have S3 := Aside0.mk (S2.out.up (T' := i + 1) (Nat.le_succ _))
        go_wp2_with fail
        go_roundw
        case rel => exact ⟨i + 1, _, _, _, hlt, N1.out, S3, HV⟩
        case measure => exact M1.out
    · obtain rfl : i = l.length := by omega
      have hb1 : decide ((l.length : Int) < (l.length : Int)) = false := decide_eq_false (by omega)
      have hP := Aside0.mk H.out.c.dirty
      unfold ptr at hP
      have hV2 := Aside0.mk HV.out.all
      have HR : Aside0 (∀ x ∈ dirtyS L, 0 ≤ x.1 ∧ x.1 < 1024) := ⟨fun x hx => by
        obtain ⟨f, hf, q, _⟩ := dirty_mem hx
        rw [← q]
        exact H.out.c.nb.2 f hf⟩
      have HSl : Aside0 ((dirtyS L).length ≤ 64) := ⟨by
        unfold dirtyS
        refine Nat.le_trans (List.length_filterMap_le ..) ?_
        rw [(rise_perm _).length_eq]
        unfold heldS
        rw [List.length_map]
        exact H.out.c.len.1⟩
      generalize dirtyS L = S at hP hV2 HR HSl
      go_wp2_with fail
      refine hP.out.mono ?_
      rintro e w3 ⟨v, rfl, hr, hb⟩
      obtain ⟨A3, c3, rfl⟩ := own_slice hr
      have HB3 : Aside0 (tb < wr.heap.size) := ⟨blk_lt H.out.t⟩
      have Z3 : Aside0 (TS W w3 cb n l.length sb tb L st (tkUp tk S 0) ∧ w3.ownsRow wr.heap.size 37 2 (.slice A3 S.length c3) S.length (flatC S)) := ⟨by rw [tkUp_zero]; exact H.out.below hb, hr⟩
      clear hr hb hP H
      generalize wr.heap.size = bR at Z3 HB3
      go_wp2_with fail
      go_loopw [97] (fun z wi => ∃ j : Nat, j ≤ S.length ∧ z = .int .i64 j ∧ Aside0 (TS W wi cb n (l.length) sb tb L st (tkUp tk S j) ∧ wi.ownsRow bR 37 2 (.slice A3 S.length c3) S.length (flatC S))) (fun z _ => S.length - (intOf z).toNat)
      case atStart => exact ⟨0, by omega, rfl, Z3⟩
      case round =>
        obtain ⟨j, hj, rfl, I⟩ := hrel
        clear Z3
        by_cases hlj : j < S.length
        · obtain ⟨x, hx⟩ : ∃ x, S[j]? = some x := ⟨_, List.getElem?_eq_getElem hlj⟩
          have hb2 : decide ((j : Int) < (S.length : Int)) = true := decide_eq_true (by omega)
          have hrg := HR.out x (List.mem_of_getElem? hx)
          obtain ⟨xk, xd⟩ := x
          obtain ⟨g, rfl, x0, x1⟩ := crow_at I.out.2 hx
          obtain ⟨q, rfl⟩ : ∃ q : Nat, xk = q := ⟨xk.toNat, by have := hrg.1; dsimp only at this; omega⟩
          have hq : q < 1024 := by have := hrg.2; dsimp only at this; omega
          have hq0 : decide ((q : Int) ≥ 0) = true := decide_eq_true (by omega)
          have hq1 : decide ((q : Int) < 1024) = true := decide_eq_true (by omega)
          have hq2 : (0 : Int) ≤ (q : Int) := by omega
          have hq3 : (q : Int) < 1024 := by omega
          have PX := Aside0.mk (blk_new wr (.cells #[.int .i64 (q : Int), .string xd] 37))
          have hbx := below_alloc (Below.refl wr.heap.size wr) (.cells #[.int .i64 (q : Int), .string xd] 37)
          have I2 := Aside0.mk (And.intro (I.out.1.below hbx) (own_below I.out.2 hbx))
          have HU := Aside0.mk (tkUp_next (tk := tk) hx)
          have N2 := Aside0.mk (nxt j S.length hlj (Nat.le_trans HSl.out (by decide)))
          have M2 := Aside0.mk (meas j S.length hlj (Nat.le_trans HSl.out (by decide)))
          clear hx hbx hrg
          dsimp only at x0 x1
          go_upto_region 27 with fail
          generalize wr.alloc (.cells #[.int .i64 (q : Int), .string xd] 37) = W9 at PX I2 ⊢
          generalize wr.heap.size = b9 at PX ⊢
          clear x0 x1 I
          have p0 := (blk_cell PX.out 0).trans (Eq.refl (some (Value.int .i64 (q : Int))))
          have p1 := (blk_cell PX.out 1).trans (Eq.refl (some (Value.string xd)))
          have y1 := (blk_cell I2.out.1.t q).trans (arrS_at (tkUp tk S j) hq)
          have yf := blk_frozen I2.out.1.t q
          have I3 : Aside0 (TS W (W9.setCell ⟨tb, q, none⟩ (.string xd)) cb n (l.length) sb tb L st (tkUp tk S (j + 1)) ∧ (W9.setCell ⟨tb, q, none⟩ (.string xd)).ownsRow bR 37 2 (.slice (some ⟨g, 0, none⟩) S.length c3) S.length (flatC S)) := ⟨by
            refine ⟨by rw [HU.out]; exact I2.out.1.setT hq xd, own_keep I2.out.2 fun k hk _ => Below.heap_setCell W9 ⟨tb, q, none⟩ _ k (fun e => by have h1 := HB3.out; have e : k = tb := e; omega)⟩⟩
          clear I2
          go_wp2_with fail
          go_roundw
          case rel => exact ⟨j + 1, hlj, N2.out, I3⟩
          case measure => exact M2.out
        · obtain rfl : j = S.length := by omega
          have hb2 : decide ((S.length : Int) < (S.length : Int)) = false := decide_eq_false (by omega)
          have hT := I.out.1.t
          rw [hV2.out] at hT
          have hS := I.out.1.s
          have HBel := Aside0.mk I.out.1.c.bel
          have heq := eq_arr st
          have hsz := arrS_size st
          clear I
          go_upto_region 30 with fail
          generalize arrS st = xs at hS hT heq hsz
          apply wp_region_lit
          refine wpList_load_row rfl 28 (.tmp 7) rfl sb rfl 28 xs (0, 0) _ hS hua rfl (by rw [hsz]; kernel_rfl) ?_
          refine wpList_load_row rfl 28 (.tmp 8) rfl tb rfl 28 xs (0, 0) _ hT hua rfl (by rw [hsz]; kernel_rfl) ?_
          refine wpList_eq_arr rfl (.tmp 115) (.tmp 116) _ rfl xs rfl rfl heq ?_
          clear hS hT heq hsz
          go_wp2_with fail
          refine (speaks_calls _).mono ?_
          rintro e w7 ⟨rfl, hb⟩
          have B7 := Aside0.mk (HBel.out.trans (hb.mono HBel.out.size))
          clear hb
          go_wp2_with fail
          go_ret
          exact ⟨rfl, B7.out⟩
theorem CacheTells (W : World) (n : Int) (hw : (Lit.int .i64 n).wf = true) (A : Option Addr) (k c : Nat) (l : List Step) (h : (Kd.slice 30 stepK).K W l [.slice A k c]) (hg : True) :
    Calls Try.prog 3 #[.int .i64 n, .slice A k c] W fun e W' => e = .returned (.bool true) ∧ Below W.heap.size W W' := by
  obtain ⟨A1, c1, he, hcc, hC⟩ := h
  obtain ⟨rfl, rfl, rfl⟩ : A = A1 ∧ k = l.length ∧ c = c1 := by simpa using he
  by_cases h1 : n < 1 ∨ 64 < n
  · exact tells_no W n A l.length c h1
  · by_cases hn : l.length ≤ 500
    · exact tells_short W n A c l (by omega) (by omega) hC hn
    · exact tells_long W n A l.length c (by omega) (by omega) (by omega)
end Go.Proofs.Ytikefafpkclgeaa.Core
