/- The walk of the law CacheLast. -/
import Derived.Test.YtikefafpkclgeaaCacheK
set_option linter.unusedVariables false
set_option linter.unusedSimpArgs false
namespace Go.Proofs.Ytikefafpkclgeaa.CacheS
theorem load_last {fr : Int} {L : List F} {k : Int} {d : ByteArray} (h : (loadS fr L k d).2.2 = 0) : ∃ P f, (loadS fr L k d).1 = P ++ [f] ∧ f.b = k ∧ f.d = d := by
  unfold loadS at h ⊢
  split at h
  · simp at h
  · rename_i h1
    rw [if_neg h1]
    split at h
    · simp at h
    · rename_i h2
      rw [if_neg h2]
      split at h
      · rename_i h3
        rw [if_pos h3]
        exact ⟨_, _, rfl, rfl, rfl⟩
      · rename_i h3
        rw [if_neg h3]
        unfold evictS at h ⊢
        cases hf : L.find? free with
        | none => rw [hf] at h; simp at h
        | some v => exact ⟨_, _, rfl, rfl, rfl⟩
theorem look_last {L : List F} {k : Int} (h : (lookS L k).2.2 = true) : ∃ P f, (lookS L k).1 = P ++ [f] ∧ f.b = k ∧ f.d = (lookS L k).2.1 := by
  unfold lookS at h ⊢
  cases hf : fnd F.b L k with
  | none => rw [hf] at h; simp at h
  | some f => exact ⟨_, f, rfl, (fnd_mem hf).2, rfl⟩
theorem store_last {L : List F} {k : Int} {d : ByteArray} (h : (storeS L k d).2 = 0) : ∃ P f, (storeS L k d).1 = P ++ [f] ∧ f.b = k ∧ f.d = d := by
  unfold storeS at h ⊢
  split at h
  · simp at h
  · rename_i h1
    rw [if_neg h1]
    cases hf : fnd F.b L k with
    | none => rw [hf] at h; simp at h
    | some f => exact ⟨_, _, rfl, (fnd_mem hf).2, rfl⟩
theorem look_of_last {L P : List F} {f : F} (hn : (L.map F.b).Nodup) (h : L = P ++ [f]) : lookS L f.b = (rest F.b L f.b ++ [f], f.d, true) := by
  unfold lookS
  rw [fnd_hit hn (h ▸ List.mem_append_right _ (List.mem_singleton.2 rfl))]
end Go.Proofs.Ytikefafpkclgeaa.CacheS
namespace Go.Proofs.Ytikefafpkclgeaa.Core
open Go.RowKit Go.Proofs.YtikefafpkclgeaaW.PrintWords Go.Proofs.YtikefafpkclgeaaW.PrintLast Go.Proofs.YtikefafpkclgeaaW.PrintMore Go.Proofs.Ytikefafpkclgeaa.Maps Go.Proofs.Ytikefafpkclgeaa.CacheS Go.Proofs.Ytikefafpkclgeaa.Cache
set_option maxHeartbeats 3200000 in
set_option maxRecDepth 100000 in
theorem last_no (W : World) (n : Int) (A : Option Addr) (k c : Nat) (hn : n < 1 ∨ 64 < n) :
    Calls Try.prog 4 #[.int .i64 n, .slice A k c] W fun e W' => e = .returned (.bool true) ∧ Below W.heap.size W W' := by
  have hup := Try.underlying23
  have HN := Aside0.mk hn
  clear hn
  go_enter Try.func4, Try.ntmps4
  go_wp2_with fail
  refine (new_no n W HN.out).mono ?_
  rintro e w1 ⟨rfl, hb⟩
  have B1 := Aside0.mk hb
  clear hb
  go_wp2_with fail
  refine (speaks_calls _).mono ?_
  rintro e w3 ⟨rfl, hb⟩
  have B3 := Aside0.mk (B1.out.trans (hb.mono B1.out.size))
  clear hb
  go_wp2_with fail
  go_ret
  exact ⟨rfl, B3.out⟩
set_option maxHeartbeats 3200000 in
set_option maxRecDepth 100000 in
theorem last_long (W : World) (n : Int) (A : Option Addr) (k c : Nat) (h1 : 1 ≤ n) (h7 : n ≤ 64) (hk : 300 < k) :
    Calls Try.prog 4 #[.int .i64 n, .slice A k c] W fun e W' => e = .returned (.bool true) ∧ Below W.heap.size W W' := by
  have hup := Try.underlying23
  have HN := Aside0.mk (And.intro h1 h7)
  have b1 : decide ((k : Int) > 300) = true := decide_eq_true (by omega)
  clear h1 h7 hk
  go_enter Try.func4, Try.ntmps4
  go_wp2_with fail
  refine (new_yes n W W.heap.size (Nat.le_refl _) HN.out.1 HN.out.2).mono ?_
  rintro e w1 ⟨cb, mb, rfl, hI, hB, -⟩
  have B1 := Aside0.mk hB
  clear hI hB
  unfold ptr
  go_wp2_with fail
  refine (speaks_calls _).mono ?_
  rintro e w3 ⟨rfl, hb⟩
  have B3 := Aside0.mk (B1.out.trans (hb.mono B1.out.size))
  clear hb
  go_wp2_with fail
  go_ret
  exact ⟨rfl, B3.out⟩
set_option maxHeartbeats 51200000 in
set_option maxRecDepth 100000 in
theorem last_short (W : World) (n : Int) (A : Option Addr) (c : Nat) (l : List Step) (h1 : 1 ≤ n) (h7 : n ≤ 64) (hC : Kd.C stepK W A l.length l) (hn : l.length ≤ 300) :
    Calls Try.prog 4 #[.int .i64 n, .slice A l.length c] W fun e W' => e = .returned (.bool true) ∧ Below W.heap.size W W' := by
  have hup := Try.underlying23
  have hus := Try.underlying30
  have HC := Aside0.mk hC
  have HL := Aside0.mk hn
  have HN := Aside0.mk (And.intro h1 h7)
  have b1 : decide ((l.length : Int) > 300) = false := decide_eq_false (by omega)
  clear hC hn h1 h7
  go_enter Try.func4, Try.ntmps4
  go_wp2_with fail
  refine (new_yes n W W.heap.size (Nat.le_refl _) HN.out.1 HN.out.2).mono ?_
  rintro e w1 ⟨cb, mb, rfl, hI, hB, -⟩
  have C1 : Aside0 (Cch W w1 cb n 0 (fun _ => False) []) := ⟨Cch.new hI hB _ (fun k hk => hk.elim)⟩
  clear hI hB
  unfold ptr
  go_wp2_with fail
  go_loopw [44] (fun z wr => ∃ (i : Nat) (L : List F), i ≤ l.length ∧ z = .int .i64 i ∧ Aside0 (Cch W wr cb n (2 * i) (fun _ => False) L)) (fun z _ => l.length - (intOf z).toNat)
  case atStart => exact ⟨0, [], by omega, rfl, C1⟩
  case round =>
    obtain ⟨i, L, hi, rfl, H⟩ := hrel
    clear C1
    by_cases hlt : i < l.length
    · obtain ⟨s, hs⟩ : ∃ s, l[i]? = some s := ⟨_, List.getElem?_eq_getElem hlt⟩
      obtain ⟨ad, rfl, hcs⟩ := step_at HC.out hs
      obtain ⟨e0, e1, e2⟩ := hcs wr H.out.bel
      have hb1 : decide ((i : Int) < (l.length : Int)) = true := decide_eq_true (by omega)
      have P1 := Aside0.mk (blk_new wr (.cells #[.int .i64 s.kind, .int .i64 s.k, .string s.d] 30))
      have hbs := below_alloc (Below.refl wr.heap.size wr) (.cells #[.int .i64 s.kind, .int .i64 s.k, .string s.d] 30)
      have C2 : Aside0 (Cch W (wr.alloc (.cells #[.int .i64 s.kind, .int .i64 s.k, .string s.d] 30)) cb n (2 * i) (fun k => k = wr.heap.size) L) := ⟨(H.out.more hbs).sub fun k hk => .inr (by rw [hk]; exact ⟨Nat.le_refl _, by simp⟩)⟩
      have HT : Aside0 (2 * i < 1000000 ∧ 2 * i + 1 < 1000000 ∧ 2 * i + 1 ≤ 2 * (i + 1) ∧ 2 * i ≤ 2 * (i + 1)) := ⟨by have := HL.out; omega⟩
      have N1 := Aside0.mk (nxt i l.length hlt (Nat.le_trans HL.out (by decide)))
      have M1 := Aside0.mk (meas i l.length hlt (Nat.le_trans HL.out (by decide)))
      clear hs hcs hbs
      go_upto_region 7 with fail
      generalize wr.alloc (.cells #[.int .i64 s.kind, .int .i64 s.k, .string s.d] 30) = W2 at P1 C2 ⊢
      generalize wr.heap.size = b8 at P1 C2 ⊢
      clear e0 e1 e2 H
      have q0 := (blk_cell P1.out 0).trans (Eq.refl (some (Value.int .i64 s.kind)))
      have q1 := (blk_cell P1.out 1).trans (Eq.refl (some (Value.int .i64 s.k)))
      have q2 := (blk_cell P1.out 2).trans (Eq.refl (some (Value.string s.d)))
      rcases Bool.eq_false_or_eq_true (s.kind == 0) with k0 | k0
      · have hP := Aside0.mk (C2.out.load s.k s.d HN.out.1 HT.out.1)
        have hLst := Aside0.mk (@load_last n L s.k s.d)
        unfold ptr at hP
        generalize loadS n L s.k s.d = r at hP hLst
        obtain ⟨r1, r2, r3⟩ := r
        go_wp2_with fail
        refine hP.out.mono ?_
        rintro e w3 ⟨rfl, hC, hK⟩
        have C3 := Aside0.mk hC
        have P3 := Aside0.mk ((hK b8 rfl).trans P1.out)
        clear hC hK hP q0 q1 q2 P1 C2
        have q1 := (blk_cell P3.out 1).trans (Eq.refl (some (Value.int .i64 s.k)))
        rcases Bool.eq_false_or_eq_true (r3 == 0) with z | z
        · obtain ⟨P, f, hPf1, hPf2, hPf3⟩ := hLst.out (by simpa using z)
          have hPf : Aside0 (r1 = P ++ [f] ∧ f.b = s.k ∧ s.d = f.d) := ⟨hPf1, hPf2, hPf3.symm⟩
          clear hPf1 hPf2 hPf3 hLst
          have hLK := look_of_last C3.out.nb.1 hPf.out.1
          rw [hPf.out.2.1] at hLK
          have HHeld := Aside0.mk C3.out.held
          unfold ptr at HHeld
          go_wp2_with fail
          refine HHeld.out.mono ?_
          rintro e w4 ⟨v, rfl, hr, hb⟩
          obtain ⟨m, hm⟩ : ∃ m, m = P.length + 1 := ⟨_, rfl⟩
          have HMm := Aside0.mk hm
          have hlen : (heldS r1).length = m := by rw [hPf.out.1, hm]; unfold heldS; simp
          clear hm
          have hlast : ((heldS r1).map (Value.int .i64))[P.length]? = some (.int .i64 s.k) := by rw [hPf.out.1, ← hPf.out.2.1]; unfold heldS; simp
          have HLen : Aside0 (P.length + 1 ≤ 64) := ⟨by have h1 := C3.out.len.1; rw [hPf.out.1] at h1; simpa using h1⟩
          obtain ⟨A4, c4, rfl⟩ := own_slice hr
          have C4 := Aside0.mk (C3.out.more hb)
          have R4 := Aside0.mk hr
          have P4 := Aside0.mk (blk_below P3.out hb)
          have HLa := Aside0.mk hlast
          have HLn := Aside0.mk hlen
          clear hr hb HHeld hlast hlen
          have q1 := (blk_cell P4.out 1).trans (Eq.refl (some (Value.int .i64 s.k)))
          have hLo := C4.out.look s.k HT.out.2.1
          rw [hLK] at hLo
          have HLo := Aside0.mk hLo
          unfold ptr at HLo
          clear hLo hLK
          rw [HLn.out]
          go_wp2_with fail
          refine HLo.out.mono ?_
          rintro e w5 ⟨rfl, hC, hK⟩
          have C5 := Aside0.mk hC
          have hr5 := own_keep R4.out (fun k hk hl => hK k (.inr ⟨hk, hl⟩))
          have P5 := Aside0.mk ((hK b8 (.inl rfl)).trans P4.out)
          obtain ⟨g, cap', e1, y1⟩ := own_cell hr5 HLa.out
          simp only [Value.slice.injEq] at e1
          obtain ⟨rfl, -, rfl⟩ := e1
          clear hC hK HLo q1 hr5 R4
          have q1 := (blk_cell P5.out 1).trans (Eq.refl (some (Value.int .i64 s.k)))
          have z1 : ((m : Int) == 0) = false := by have := HMm.out; simp; omega
          have wr1 : wrap64 ((m : Int) - 1) = (P.length : Int) := by have := HLen.out; have := HMm.out; unfold wrap64; omega
          have hp2 : (P.length : Int) < (m : Int) := by have := HMm.out; omega
          have hfd := hPf.out.2.2
          generalize f.d = fd at hfd ⊢
          subst hfd
          have D5 : Aside0 (Cch W w5.drew cb n (2 * i + 1 + 1) (fun _ => False) (rest F.b r1 s.k ++ [f])) := ⟨(C5.out.below (below_drew1 (Below.refl _ _))).sub fun _ h => h.elim⟩
          go_wp2_with fail
          go_region
          all_goals
            go_wp2_with fail
            go_roundw
            case rel => exact ⟨i + 1, _, hlt, N1.out, D5⟩
            case measure => exact M1.out
        · go_wp2_with fail
          go_roundw
          case rel => exact ⟨i + 1, _, hlt, N1.out, ⟨(C3.out.up HT.out.2.2.1).sub fun _ h => h.elim⟩⟩
          case measure => exact M1.out
      rcases Bool.eq_false_or_eq_true (s.kind == 1) with k1 | k1
      · have hP := Aside0.mk (C2.out.load s.k s.d HN.out.1 HT.out.1)
        have hLst := Aside0.mk (@load_last n L s.k s.d)
        unfold ptr at hP
        generalize loadS n L s.k s.d = r at hP hLst
        obtain ⟨r1, r2, r3⟩ := r
        go_wp2_with fail
        refine hP.out.mono ?_
        rintro e w3 ⟨rfl, hC, hK⟩
        have C3 := Aside0.mk hC
        have P3 := Aside0.mk ((hK b8 rfl).trans P1.out)
        clear hC hK hP q0 q1 q2 P1 C2
        have q1 := (blk_cell P3.out 1).trans (Eq.refl (some (Value.int .i64 s.k)))
        rcases Bool.eq_false_or_eq_true (r3 == 0) with z | z
        · obtain ⟨P, f, hPf1, hPf2, hPf3⟩ := hLst.out (by simpa using z)
          have hPf : Aside0 (r1 = P ++ [f] ∧ f.b = s.k ∧ s.d = f.d) := ⟨hPf1, hPf2, hPf3.symm⟩
          clear hPf1 hPf2 hPf3 hLst
          have hLK := look_of_last C3.out.nb.1 hPf.out.1
          rw [hPf.out.2.1] at hLK
          have HHeld := Aside0.mk C3.out.held
          unfold ptr at HHeld
          go_wp2_with fail
          refine HHeld.out.mono ?_
          rintro e w4 ⟨v, rfl, hr, hb⟩
          obtain ⟨m, hm⟩ : ∃ m, m = P.length + 1 := ⟨_, rfl⟩
          have HMm := Aside0.mk hm
          have hlen : (heldS r1).length = m := by rw [hPf.out.1, hm]; unfold heldS; simp
          clear hm
          have hlast : ((heldS r1).map (Value.int .i64))[P.length]? = some (.int .i64 s.k) := by rw [hPf.out.1, ← hPf.out.2.1]; unfold heldS; simp
          have HLen : Aside0 (P.length + 1 ≤ 64) := ⟨by have h1 := C3.out.len.1; rw [hPf.out.1] at h1; simpa using h1⟩
          obtain ⟨A4, c4, rfl⟩ := own_slice hr
          have C4 := Aside0.mk (C3.out.more hb)
          have R4 := Aside0.mk hr
          have P4 := Aside0.mk (blk_below P3.out hb)
          have HLa := Aside0.mk hlast
          have HLn := Aside0.mk hlen
          clear hr hb HHeld hlast hlen
          have q1 := (blk_cell P4.out 1).trans (Eq.refl (some (Value.int .i64 s.k)))
          have hLo := C4.out.look s.k HT.out.2.1
          rw [hLK] at hLo
          have HLo := Aside0.mk hLo
          unfold ptr at HLo
          clear hLo hLK
          rw [HLn.out]
          go_wp2_with fail
          refine HLo.out.mono ?_
          rintro e w5 ⟨rfl, hC, hK⟩
          have C5 := Aside0.mk hC
          have hr5 := own_keep R4.out (fun k hk hl => hK k (.inr ⟨hk, hl⟩))
          have P5 := Aside0.mk ((hK b8 (.inl rfl)).trans P4.out)
          obtain ⟨g, cap', e1, y1⟩ := own_cell hr5 HLa.out
          simp only [Value.slice.injEq] at e1
          obtain ⟨rfl, -, rfl⟩ := e1
          clear hC hK HLo q1 hr5 R4
          have q1 := (blk_cell P5.out 1).trans (Eq.refl (some (Value.int .i64 s.k)))
          have z1 : ((m : Int) == 0) = false := by have := HMm.out; simp; omega
          have wr1 : wrap64 ((m : Int) - 1) = (P.length : Int) := by have := HLen.out; have := HMm.out; unfold wrap64; omega
          have hp2 : (P.length : Int) < (m : Int) := by have := HMm.out; omega
          have hfd := hPf.out.2.2
          generalize f.d = fd at hfd ⊢
          subst hfd
          have D5 : Aside0 (Cch W w5.drew cb n (2 * i + 1 + 1) (fun _ => False) (rest F.b r1 s.k ++ [f])) := ⟨(C5.out.below (below_drew1 (Below.refl _ _))).sub fun _ h => h.elim⟩
          go_wp2_with fail
          go_region
          all_goals
            go_wp2_with fail
            go_roundw
            case rel => exact ⟨i + 1, _, hlt, N1.out, D5⟩
            case measure => exact M1.out
        · go_wp2_with fail
          go_roundw
          case rel => exact ⟨i + 1, _, hlt, N1.out, ⟨(C3.out.up HT.out.2.2.1).sub fun _ h => h.elim⟩⟩
          case measure => exact M1.out
      rcases Bool.eq_false_or_eq_true (s.kind == 2) with k2 | k2
      · have hP := Aside0.mk (C2.out.look s.k HT.out.1)
        have hLst := Aside0.mk (@look_last L s.k)
        unfold ptr at hP
        generalize lookS L s.k = r at hP hLst
        obtain ⟨r1, d, ok⟩ := r
        go_wp2_with fail
        refine hP.out.mono ?_
        rintro e w3 ⟨rfl, hC, hK⟩
        have C3 := Aside0.mk hC
        have P3 := Aside0.mk ((hK b8 rfl).trans P1.out)
        clear hC hK hP q0 q1 q2 P1 C2
        have q1 := (blk_cell P3.out 1).trans (Eq.refl (some (Value.int .i64 s.k)))
        cases ok with
        | true =>
          obtain ⟨P, f, hPf1, hPf2, hPf3⟩ := hLst.out rfl
          have hPf : Aside0 (r1 = P ++ [f] ∧ f.b = s.k ∧ d = f.d) := ⟨hPf1, hPf2, hPf3.symm⟩
          clear hPf1 hPf2 hPf3 hLst
          have hLK := look_of_last C3.out.nb.1 hPf.out.1
          rw [hPf.out.2.1] at hLK
          have HHeld := Aside0.mk C3.out.held
          unfold ptr at HHeld
          go_wp2_with fail
          refine HHeld.out.mono ?_
          rintro e w4 ⟨v, rfl, hr, hb⟩
          obtain ⟨m, hm⟩ : ∃ m, m = P.length + 1 := ⟨_, rfl⟩
          have HMm := Aside0.mk hm
          have hlen : (heldS r1).length = m := by rw [hPf.out.1, hm]; unfold heldS; simp
          clear hm
          have hlast : ((heldS r1).map (Value.int .i64))[P.length]? = some (.int .i64 s.k) := by rw [hPf.out.1, ← hPf.out.2.1]; unfold heldS; simp
          have HLen : Aside0 (P.length + 1 ≤ 64) := ⟨by have h1 := C3.out.len.1; rw [hPf.out.1] at h1; simpa using h1⟩
          obtain ⟨A4, c4, rfl⟩ := own_slice hr
          have C4 := Aside0.mk (C3.out.more hb)
          have R4 := Aside0.mk hr
          have P4 := Aside0.mk (blk_below P3.out hb)
          have HLa := Aside0.mk hlast
          have HLn := Aside0.mk hlen
          clear hr hb HHeld hlast hlen
          have q1 := (blk_cell P4.out 1).trans (Eq.refl (some (Value.int .i64 s.k)))
          have hLo := C4.out.look s.k HT.out.2.1
          rw [hLK] at hLo
          have HLo := Aside0.mk hLo
          unfold ptr at HLo
          clear hLo hLK
          rw [HLn.out]
          go_wp2_with fail
          refine HLo.out.mono ?_
          rintro e w5 ⟨rfl, hC, hK⟩
          have C5 := Aside0.mk hC
          have hr5 := own_keep R4.out (fun k hk hl => hK k (.inr ⟨hk, hl⟩))
          have P5 := Aside0.mk ((hK b8 (.inl rfl)).trans P4.out)
          obtain ⟨g, cap', e1, y1⟩ := own_cell hr5 HLa.out
          simp only [Value.slice.injEq] at e1
          obtain ⟨rfl, -, rfl⟩ := e1
          clear hC hK HLo q1 hr5 R4
          have q1 := (blk_cell P5.out 1).trans (Eq.refl (some (Value.int .i64 s.k)))
          have z1 : ((m : Int) == 0) = false := by have := HMm.out; simp; omega
          have wr1 : wrap64 ((m : Int) - 1) = (P.length : Int) := by have := HLen.out; have := HMm.out; unfold wrap64; omega
          have hp2 : (P.length : Int) < (m : Int) := by have := HMm.out; omega
          have hfd := hPf.out.2.2
          generalize f.d = fd at hfd ⊢
          subst hfd
          have D5 : Aside0 (Cch W w5.drew cb n (2 * i + 1 + 1) (fun _ => False) (rest F.b r1 s.k ++ [f])) := ⟨(C5.out.below (below_drew1 (Below.refl _ _))).sub fun _ h => h.elim⟩
          go_wp2_with fail
          go_region
          all_goals
            go_wp2_with fail
            go_roundw
            case rel => exact ⟨i + 1, _, hlt, N1.out, D5⟩
            case measure => exact M1.out
        | false =>
          go_wp2_with fail
          go_roundw
          case rel => exact ⟨i + 1, _, hlt, N1.out, ⟨(C3.out.up HT.out.2.2.1).sub fun _ h => h.elim⟩⟩
          case measure => exact M1.out
      rcases Bool.eq_false_or_eq_true (s.kind == 3) with k3 | k3
      · have hP := Aside0.mk (C2.out.store s.k s.d HT.out.1)
        have hLst := Aside0.mk (@store_last L s.k s.d)
        unfold ptr at hP
        generalize storeS L s.k s.d = r at hP hLst
        obtain ⟨r1, r3⟩ := r
        go_wp2_with fail
        refine hP.out.mono ?_
        rintro e w3 ⟨rfl, hC, hK⟩
        have C3 := Aside0.mk hC
        have P3 := Aside0.mk ((hK b8 rfl).trans P1.out)
        clear hC hK hP q0 q1 q2 P1 C2
        have q1 := (blk_cell P3.out 1).trans (Eq.refl (some (Value.int .i64 s.k)))
        rcases Bool.eq_false_or_eq_true (r3 == 0) with z | z
        · obtain ⟨P, f, hPf1, hPf2, hPf3⟩ := hLst.out (by simpa using z)
          have hPf : Aside0 (r1 = P ++ [f] ∧ f.b = s.k ∧ s.d = f.d) := ⟨hPf1, hPf2, hPf3.symm⟩
          clear hPf1 hPf2 hPf3 hLst
          have hLK := look_of_last C3.out.nb.1 hPf.out.1
          rw [hPf.out.2.1] at hLK
          have HHeld := Aside0.mk C3.out.held
          unfold ptr at HHeld
          go_wp2_with fail
          refine HHeld.out.mono ?_
          rintro e w4 ⟨v, rfl, hr, hb⟩
          obtain ⟨m, hm⟩ : ∃ m, m = P.length + 1 := ⟨_, rfl⟩
          have HMm := Aside0.mk hm
          have hlen : (heldS r1).length = m := by rw [hPf.out.1, hm]; unfold heldS; simp
          clear hm
          have hlast : ((heldS r1).map (Value.int .i64))[P.length]? = some (.int .i64 s.k) := by rw [hPf.out.1, ← hPf.out.2.1]; unfold heldS; simp
          have HLen : Aside0 (P.length + 1 ≤ 64) := ⟨by have h1 := C3.out.len.1; rw [hPf.out.1] at h1; simpa using h1⟩
          obtain ⟨A4, c4, rfl⟩ := own_slice hr
          have C4 := Aside0.mk (C3.out.more hb)
          have R4 := Aside0.mk hr
          have P4 := Aside0.mk (blk_below P3.out hb)
          have HLa := Aside0.mk hlast
          have HLn := Aside0.mk hlen
          clear hr hb HHeld hlast hlen
          have q1 := (blk_cell P4.out 1).trans (Eq.refl (some (Value.int .i64 s.k)))
          have hLo := C4.out.look s.k HT.out.2.1
          rw [hLK] at hLo
          have HLo := Aside0.mk hLo
          unfold ptr at HLo
          clear hLo hLK
          rw [HLn.out]
          go_wp2_with fail
          refine HLo.out.mono ?_
          rintro e w5 ⟨rfl, hC, hK⟩
          have C5 := Aside0.mk hC
          have hr5 := own_keep R4.out (fun k hk hl => hK k (.inr ⟨hk, hl⟩))
          have P5 := Aside0.mk ((hK b8 (.inl rfl)).trans P4.out)
          obtain ⟨g, cap', e1, y1⟩ := own_cell hr5 HLa.out
          simp only [Value.slice.injEq] at e1
          obtain ⟨rfl, -, rfl⟩ := e1
          clear hC hK HLo q1 hr5 R4
          have q1 := (blk_cell P5.out 1).trans (Eq.refl (some (Value.int .i64 s.k)))
          have z1 : ((m : Int) == 0) = false := by have := HMm.out; simp; omega
          have wr1 : wrap64 ((m : Int) - 1) = (P.length : Int) := by have := HLen.out; have := HMm.out; unfold wrap64; omega
          have hp2 : (P.length : Int) < (m : Int) := by have := HMm.out; omega
          have hfd := hPf.out.2.2
          generalize f.d = fd at hfd ⊢
          subst hfd
          have D5 : Aside0 (Cch W w5.drew cb n (2 * i + 1 + 1) (fun _ => False) (rest F.b r1 s.k ++ [f])) := ⟨(C5.out.below (below_drew1 (Below.refl _ _))).sub fun _ h => h.elim⟩
          go_wp2_with fail
          go_region
          all_goals
            go_wp2_with fail
            go_roundw
            case rel => exact ⟨i + 1, _, hlt, N1.out, D5⟩
            case measure => exact M1.out
        · go_wp2_with fail
          go_roundw
          case rel => exact ⟨i + 1, _, hlt, N1.out, ⟨(C3.out.up HT.out.2.2.1).sub fun _ h => h.elim⟩⟩
          case measure => exact M1.out
      rcases Bool.eq_false_or_eq_true (s.kind == 6) with k6 | k6
      · have hP := Aside0.mk C2.out.take
        unfold ptr at hP
        go_wp2_with fail
        refine hP.out.mono ?_
        rintro e w3 ⟨v, rfl, hr, hC, hK⟩
        have C3 := Aside0.mk (hC.sub (Y := fun _ => False) fun _ h => h.elim)
        obtain ⟨A3, c3, rfl⟩ := own_slice hr
        clear hr hC hK hP q0 q1 q2 P1 C2
        go_wp2_with fail
        go_roundw
        case rel => exact ⟨i + 1, _, hlt, N1.out, ⟨(C3.out.up HT.out.2.2.1).sub fun _ h => h.elim⟩⟩
        case measure => exact M1.out
      · have C3 := Aside0.mk (C2.out.up (T' := 2 * i + 1) (Nat.le_succ _))
        go_wp2_with fail
        go_roundw
        case rel => exact ⟨i + 1, _, hlt, N1.out, ⟨(C3.out.up HT.out.2.2.1).sub fun _ h => h.elim⟩⟩
        case measure => exact M1.out
    · obtain rfl : i = l.length := by omega
      have hb1 : decide ((l.length : Int) < (l.length : Int)) = false := decide_eq_false (by omega)
      go_wp2_with fail
      refine (speaks_calls _).mono ?_
      rintro e w7 ⟨rfl, hb⟩
      have B7 := Aside0.mk (H.out.bel.trans (hb.mono H.out.bel.size))
      clear hb
      go_wp2_with fail
      go_ret
      exact ⟨rfl, B7.out⟩
theorem CacheLast (W : World) (n : Int) (hw : (Lit.int .i64 n).wf = true) (A : Option Addr) (k c : Nat) (l : List Step) (h : (Kd.slice 30 stepK).K W l [.slice A k c]) (hg : True) :
    Calls Try.prog 4 #[.int .i64 n, .slice A k c] W fun e W' => e = .returned (.bool true) ∧ Below W.heap.size W W' := by
  obtain ⟨A1, c1, he, hcc, hC⟩ := h
  obtain ⟨rfl, rfl, rfl⟩ : A = A1 ∧ k = l.length ∧ c = c1 := by simpa using he
  by_cases h1 : n < 1 ∨ 64 < n
  · exact last_no W n A l.length c h1
  · by_cases hn : l.length ≤ 300
    · exact last_short W n A c l (by omega) (by omega) hC hn
    · exact last_long W n A l.length c (by omega) (by omega) (by omega)
end Go.Proofs.Ytikefafpkclgeaa.Core
