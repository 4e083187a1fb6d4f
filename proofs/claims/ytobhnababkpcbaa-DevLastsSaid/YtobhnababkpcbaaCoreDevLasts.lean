/- The walk of the law DevLasts. -/
import Derived.Test.YtobhnababkpcbaaDevLasts
set_option linter.unusedVariables false
set_option linter.unusedSimpArgs false
namespace Go.Proofs.Ytobhnababkpcbaa.Core
open Go.RowKit Go.Proofs.YtobhnababkpcbaaW.PrintWords Go.Proofs.YtobhnababkpcbaaW.PrintLast Go.Proofs.YtobhnababkpcbaaW.PrintMore Go.Proofs.Ytobhnababkpcbaa.Maps Go.Proofs.Ytobhnababkpcbaa.DevS Go.Proofs.Ytobhnababkpcbaa.Given Go.Proofs.Ytobhnababkpcbaa.Dev
/-- A device behind some steps. -/
def Behind (W : World) (c : Int) (i db : Nat) (w : World) : Prop := ∃ (d : D) (lb sb : Nat) (v : Value), DevIs W.heap.size w db lb sb v d ∧ InvL c d ∧ d.q.length ≤ i ∧ Below W.heap.size W w
theorem Behind.write {W : World} {c : Int} {i db : Nat} {d d' : D} {lb sb : Nat} {v : Value} {w w' : World} {e : Value} {en : Ending} (h : DevIs W.heap.size w db lb sb v d) (hb : Below W.heap.size W w) (hp : WritePost W.heap.size db lb sb v w d' e en w') (hi : InvL c d') (hq : d'.q.length ≤ i) : en = .returned e ∧ Behind W c i db w' := by
  obtain ⟨sb', v', rfl, h1, h2, _⟩ := hp
  exact ⟨rfl, d', lb, sb', v', h1, hi, hq, Fr.below hb h2 (fun k hk => h.fp_ge hk) hb.size⟩
set_option maxHeartbeats 6400000 in
set_option maxRecDepth 100000 in
theorem devLasts (W : World) (c : Int) (hc : (Lit.int .u8 c).wf = true) (A : Option Addr) (l : List Step) (cp : Nat) (hl : Kd.C stepK W A l.length l) (hg : ∀ s ∈ l, goodStep s) :
    Calls Try.prog 5 #[.int .u8 c, .slice A l.length cp] W fun e W' => e = .returned (.bool true) ∧ Below W.heap.size W W' := by
  have hus := Try.underlying30
  have hup := Try.underlying24
  obtain ⟨t1, t2, t3⟩ := invL_start c
  have HT := Aside0.mk (And.intro t1 (And.intro t2 t3))
  have HL := Aside0.mk hl
  have HG := Aside0.mk hg
  have HB := Aside0.mk (fun w => block_any c w)
  have HI := Aside0.mk (fun d (h : InvL c d) => invL_read h)
  have hbz := blockB_size c
  clear t1 t2 t3 hl hg hc
  generalize hbc : blockB c = bc at HB HI hbz
  have HBC := Aside0.mk hbc
  clear hbc
  go_enter Try.func5, Try.ntmps5
  go_wp2_with fail
  refine (new_yes W.heap.size 8 W (Nat.le_refl _) (by omega) (by omega)).mono ?_
  rintro e w1 ⟨db, lb, sb, rfl, hD1, hBe1, _⟩
  have E1 := Aside0.mk hD1
  have B1 := Aside0.mk hBe1
  clear hD1 hBe1
  unfold ptr
  go_wp2_with fail
  refine (HB.out _).mono ?_
  rintro e w2 ⟨rfl, hb2⟩
  have B2 := Aside0.mk (B1.out.trans (hb2.mono B1.out.size))
  have E2 := Aside0.mk (E1.out.below hb2)
  clear hb2
  go_wp2_with fail
  have hW := write_calls (a := 3) (s := bc) E2.out (B2.out.size) (by rw [hbz]; omega) (by simp [dNew])
  unfold ptr at hW
  refine hW.mono ?_
  rintro e w4 ⟨sb4, v4, rfl, hD4, hF4, hK4⟩
  clear hW
  have B4 : Aside0 (Below W.heap.size W w4) := ⟨Fr.below B2.out hF4 (fun k hk => E2.out.fp_ge hk) B2.out.size⟩
  have E4 := Aside0.mk hD4
  clear hD4 hF4 hK4
  rw [← HBC.out] at E4
  rw [← HBC.out, HT.out.1]
  by_cases h300 : l.length > 300
  · have b300 : decide (l.length > 300) = true := decide_eq_true h300
    go_wp2_with fail
    refine (speaks_calls _).mono ?_
    rintro e w5 ⟨rfl, hb5⟩
    have B5 := Aside0.mk (B4.out.trans (hb5.mono B4.out.size))
    clear hb5
    go_wp2_with fail
    go_ret
    exact ⟨rfl, B5.out⟩
  · have b300 : decide (l.length > 300) = false := decide_eq_false h300
    go_wp2_with fail
    have hFl := flush_calls E4.out B4.out.size (by rw [HT.out.2.1]; omega)
    unfold ptr at hFl
    refine hFl.mono ?_
    rintro e w5 hpost
    obtain ⟨rfl, hbeh⟩ := Behind.write (i := 0) E4.out B4.out hpost HT.out.2.2 (by simp [dFlush])
    clear hFl hpost
    have BE := Aside0.mk hbeh
    clear hbeh E1 E2 E4 B1 B2 B4
    go_wp2_with fail
    go_loopw [48] (fun v48 wr => ∃ i : Nat, i ≤ l.length ∧ v48 = .int .i64 (i : Int) ∧ Aside0 (Behind W c i db wr)) (fun x _ => l.length - (intOf x).toNat)
    case atStart => exact ⟨0, by omega, rfl, BE⟩
    case round =>
      obtain ⟨i, hi, rfl, HR⟩ := hrel
      by_cases hlt : i < l.length
      · obtain ⟨ad, A', c', rfl, hcell, hpk, hpc⟩ := step_at HL.out i hlt
        obtain ⟨d, lb2, sb2, v2, hD, hInv, hq, hBe⟩ := HR.out
        have hpl : l[i].picks.length ≤ 140737488351232 := (HG.out _ (List.getElem_mem hlt)).1
        generalize l[i] = s at hcell hpk hpc hpl
        obtain ⟨e0, e1, e2, e3, e4, e5, e6⟩ := step_cells hcell hBe
        have HPK := Aside0.mk (And.intro hpk (And.intro hpc hpl))
        have HDD := Aside0.mk (And.intro hD (And.intro hInv (And.intro hq hBe)))
        have P0 := Aside0.mk (blk_new wr (.cells (sobj s A' c') 30))
        have B0 := Aside0.mk (below_alloc (Below.refl wr.heap.size wr) (.cells (sobj s A' c') 30))
        unfold sobj at P0 B0
        clear hcell hpk hpc hpl hD hInv hq hBe HR
        go_upto_region 8 with fail
        generalize hW1 : wr.alloc (.cells #[.int .i64 s.kind, .int .i64 s.at_, .int .i64 s.many, .int .i64 s.odd, .int .i64 s.torn, .int .u8 s.c, .slice A' s.picks.length c'] 30) = W1 at P0 B0 ⊢
        clear hW1 e0 e1 e2 e3 e4 e5 e6
        generalize hg1 : wr.heap.size = g1 at P0 B0 ⊢
        have E1 := Aside0.mk (HDD.out.1.below (hg1.symm ▸ B0.out))
        have B1 := Aside0.mk (HDD.out.2.2.2.trans ((hg1.symm ▸ B0.out : Below wr.heap.size wr W1).mono HDD.out.2.2.2.size))
        have q0 := (blk_cell P0.out 0).trans (Eq.refl (some (Value.int .i64 s.kind)))
        have q1 := (blk_cell P0.out 1).trans (Eq.refl (some (Value.int .i64 s.at_)))
        have q2 := (blk_cell P0.out 2).trans (Eq.refl (some (Value.int .i64 s.many)))
        have q3 := (blk_cell P0.out 3).trans (Eq.refl (some (Value.int .i64 s.odd)))
        have q4 := (blk_cell P0.out 4).trans (Eq.refl (some (Value.int .i64 s.torn)))
        have q5 := (blk_cell P0.out 5).trans (Eq.refl (some (Value.int .u8 s.c)))
        have q6 := (blk_cell P0.out 6).trans (Eq.refl (some (Value.slice A' s.picks.length c')))
        have HIV := Aside0.mk HDD.out.2.1
        have HQ : Aside0 (d.q.length ≤ i) := ⟨HDD.out.2.2.1⟩
        have Same : Aside0 (Behind W c (i + 1) db W1) := ⟨⟨d, lb2, sb2, v2, E1.out, HIV.out, by have := HQ.out; omega, B1.out⟩⟩
        clear HDD B0 hg1
        go_upto_block 2 with fail
        go_cut [60] (fun v60 wc => Behind W c (i + 1) db wc)
        case first =>
          by_cases k0 : s.kind = 0 ∨ s.kind = 1
          · have HW : Aside0 (gdL s.at_ s.many = true → ∀ w3 : World, Below W1.heap.size W1 w3 → Calls Try.prog 10 #[.pointer (some ⟨db, 0, none⟩), .int .i64 s.at_, .string (dataS s.many s.odd s.c)] w3 (fun e w4 => ∃ r : Int, e = .returned (.int .i64 r) ∧ Behind W c (i + 1) db w4)) := ⟨fun hgd w3 hb3 => by
              have hB3 : Below W.heap.size W w3 := B1.out.trans (hb3.mono B1.out.size)
              have hE3 := E1.out.below hb3
              have := write_calls (a := s.at_) (s := dataS s.many s.odd s.c) hE3 hB3.size (by have := dataS_size s.many s.odd s.c; omega) (by have := HQ.out; omega)
              unfold ptr at this
              refine this.mono fun e w4 hp => ?_
              obtain ⟨rfl, hb4⟩ := Behind.write (i := i + 1) hE3 hB3 hp (invL_write HIV.out _ _ _ _ hgd) (Nat.le_trans (dWrite_q _ _ _) (by have := HQ.out; omega))
              exact ⟨_, rfl, hb4⟩⟩
            have HDt : Aside0 (Calls Try.prog 11 #[.agg #[.int .i64 s.kind, .int .i64 s.at_, .int .i64 s.many, .int .i64 s.odd, .int .i64 s.torn, .int .u8 s.c, .slice A' s.picks.length c']] W1.drew fun e w' => e = .returned (.string (dataS s.many s.odd s.c)) ∧ Below W1.drew.heap.size W1.drew w') := ⟨data_calls s.kind s.at_ s.many s.odd s.torn s.c A' c' s.picks W1.drew (Kd.C_below HPK.out.1 (below_drew1 B1.out)) HPK.out.2.1⟩
            have P1d : Aside0 (W1.drew.heap[g1]? = some (.cells #[.int .i64 s.kind, .int .i64 s.at_, .int .i64 s.many, .int .i64 s.odd, .int .i64 s.torn, .int .u8 s.c, .slice A' s.picks.length c'] 30 (0, 0))) := ⟨P0.out⟩
            have HK1 : Aside0 ((s.kind == 0) = true ∨ ((s.kind == 0) = false ∧ (s.kind == 1) = true)) := ⟨by
              rcases k0 with k | k
              · exact .inl (by simp [k])
              · exact .inr ⟨by simp [k], by simp [k]⟩⟩
            clear k0 E1 HIV HQ HPK
            rcases HK1.out with k1 | ⟨k1, k2⟩
            all_goals
              go_upto_region 12 with fail
              go_cut [83] (fun v83 wc => v83 = .bool (gdL s.at_ s.many) ∧ wc = W1)
              case first =>
                by_cases a1 : s.at_ > 3
                · have a1b : decide (s.at_ > 3) = true := decide_eq_true a1
                  go_wp2_with fail
                  go_meet
                  case rel => exact ⟨by unfold gdL; rw [a1b]; rfl, rfl⟩
                · have a1b : decide (s.at_ > 3) = false := decide_eq_false a1
                  by_cases a2 : s.at_ ≥ 0
                  · have a2b : decide (s.at_ ≥ 0) = true := decide_eq_true a2
                    by_cases a3 : s.at_ ≤ 2
                    · have a3b : decide (s.at_ ≤ 2) = true := decide_eq_true a3
                      have hwr : IntKind.i64.wrap (3 - s.at_) = 3 - s.at_ := IntWalk.i64_in _ (by omega)
                      go_wp2_with fail
                      go_meet
                      case rel => exact ⟨by unfold gdL; rw [a1b, a2b, a3b]; simp, rfl⟩
                    · have a3b : decide (s.at_ ≤ 2) = false := decide_eq_false a3
                      go_wp2_with fail
                      go_meet
                      case rel => exact ⟨by unfold gdL; rw [a1b, a2b, a3b]; rfl, rfl⟩
                  · have a2b : decide (s.at_ ≥ 0) = false := decide_eq_false a2
                    go_wp2_with fail
                    go_meet
                    case rel => exact ⟨by unfold gdL; rw [a1b, a2b]; rfl, rfl⟩
              case rest =>
                obtain ⟨rfl, rfl⟩ := hcut
                by_cases hgd : gdL s.at_ s.many = true
                · rw [hgd]
                  have HW2 := Aside0.mk (HW.out hgd)
                  clear hgd HW k1
                  go_wp2_with fail
                  go_region_with (first
                    | (go_at_call 11; refine HDt.out.mono ?_; rintro e w3 ⟨rfl, hb3⟩; have qq1 := (blk_cell (blk_below P1d.out hb3) 1).trans (Eq.refl (some (Value.int .i64 s.at_))); have T3 := Aside0.mk (below_step (below_drew1 (Below.refl _ _)) hb3); clear hb3)
                    | (go_at_call 10; refine (HW2.out _ T3.out).mono ?_; rintro e w4 ⟨rr, rfl, hb4⟩; have T4 := Aside0.mk hb4; clear hb4))
                  all_goals
                    go_wp2_with fail
                    go_meet
                    case rel => exact T4.out
                · rw [show gdL s.at_ s.many = false from by simpa using hgd]
                  clear hgd HW k1
                  go_wp2_with fail
                  go_meet
                  case rel => exact Same.out
          · have k0b : (s.kind == 0) = false := by simp; omega
            have k1b : (s.kind == 1) = false := by simp; omega
            by_cases k2 : s.kind = 2
            · have k2b : (s.kind == 2) = true := by simp [k2]
              have hFl := flush_calls E1.out B1.out.size (by have := HQ.out; omega)
              unfold ptr at hFl
              have HFl := Aside0.mk hFl
              clear hFl k0 k2
              go_wp2_with fail
              refine HFl.out.mono ?_
              rintro e w4 hpost
              obtain ⟨rfl, hb4⟩ := Behind.write (i := i + 1) E1.out B1.out hpost (invL_flush HIV.out) (by simp [dFlush])
              have T4 := Aside0.mk hb4
              clear hpost hb4
              go_wp2_with fail
              go_meet
              case rel => exact T4.out
            · have k2b : (s.kind == 2) = false := by simp; omega
              have hPk : Kd.C Kd.bool W1 A' s.picks.length s.picks := Kd.C_below HPK.out.1 B1.out
              obtain ⟨pk1, pk2⟩ := picks_of HPK.out.1
              have hCr := crash_calls (A := A') (c := c') (picks := s.picks) (torn := s.torn) E1.out B1.out.size (by have := HQ.out; omega) (picks_of hPk).1 (by have := HPK.out.2.2; omega) (fun ad hA hne => ⟨fun hfp => by have h1 := E1.out.fp_ge hfp; have h2 := pk2 ad hA hne; omega, by have h2 := pk2 ad hA hne; have h3 := B1.out.size; omega⟩)
              unfold ptr at hCr
              have HCr := Aside0.mk hCr
              clear hCr k0 k2 hPk pk1 pk2
              go_wp2_with fail
              refine HCr.out.mono ?_
              rintro e w4 hpost
              obtain ⟨rfl, hb4⟩ := Behind.write (i := i + 1) E1.out B1.out hpost (invL_crash HIV.out _ _) (Nat.le_trans (dCrash_q _ _ _) (by have := HQ.out; omega))
              have T4 := Aside0.mk hb4
              clear hpost hb4
              go_wp2_with fail
              go_meet
              case rel => exact T4.out
        case rest =>
          clear q0 q1 q2 q3 q4 q5 q6 P0 B1 E1 HIV HQ Same HPK
          have HX := Aside0.mk hcut
          clear hcut
          obtain ⟨d2, lb3, sb3, v3, hD, hInv, hq, hBe⟩ := HX.out
          have hR := read_calls hD 3
          have hLs := fun w' (hb : Below wc.heap.size wc w') => lasts_calls (hD.below hb) 3
          rw [(HI.out d2 hInv).1] at hR
          rw [(HI.out d2 hInv).2] at hLs
          unfold ptr at hR hLs
          have HR2 := Aside0.mk hR
          have HL2 := Aside0.mk hLs
          have HS2 := Aside0.mk (And.intro hD (And.intro hInv (And.intro hq hBe)))
          clear hR hLs hD hInv hq hBe HX
          go_wp2_with fail
          refine HR2.out.mono ?_
          rintro e w5 ⟨rfl, hb5⟩
          have T5 := Aside0.mk hb5
          clear hb5
          go_wp2_with fail
          refine (HL2.out _ T5.out).mono ?_
          rintro e w6 ⟨rfl, hb6⟩
          have T6 := Aside0.mk (T5.out.trans (hb6.mono T5.out.size))
          clear hb6
          go_wp2_with fail
          refine (HB.out _).mono ?_
          rintro e w7 ⟨rfl, hb7⟩
          have T7 := Aside0.mk (T6.out.trans (hb7.mono T6.out.size))
          clear hb7
          go_wp2_with fail
          refine (HB.out _).mono ?_
          rintro e w8 ⟨rfl, hb8⟩
          have T8 := Aside0.mk (T7.out.trans (hb8.mono T7.out.size))
          clear hb8
          go_wp2_with fail
          go_roundw
          case rel => exact ⟨i + 1, by omega, by simp, ⟨⟨d2, lb3, sb3, v3, HS2.out.1.below T8.out, HS2.out.2.1, HS2.out.2.2.1, HS2.out.2.2.2.trans (T8.out.mono HS2.out.2.2.2.size)⟩⟩⟩
          case measure => simp [intOf]; omega
      · obtain rfl : i = l.length := by omega
        obtain ⟨d, lb2, sb2, v2, hD, hInv, hq, hBe⟩ := HR.out
        have BF := Aside0.mk hBe
        clear hD hInv hq hBe HR
        go_wp2_with fail
        refine (speaks_calls _).mono ?_
        rintro e w6 ⟨rfl, hb6⟩
        have B6 := Aside0.mk (BF.out.trans (hb6.mono BF.out.size))
        clear hb6
        go_wp2_with fail
        go_ret
        exact ⟨rfl, B6.out⟩
theorem DevLasts (W : World) (c : Int) (hc : (Lit.int .u8 c).wf = true) (A : Option Addr) (n cp : Nat) (l : List Step) (h : (Kd.slice 30 stepK).K W l [.slice A n cp]) (hg : ∀ s ∈ l, goodStep s) :
    Calls Try.prog 5 #[.int .u8 c, .slice A n cp] W fun e W' => e = .returned (.bool true) ∧ Below W.heap.size W W' := by
  obtain ⟨A1, c1, he, hcc, hC⟩ := h
  obtain ⟨rfl, rfl, rfl⟩ : A = A1 ∧ n = l.length ∧ cp = c1 := by simpa using he
  exact devLasts W c hc A l cp hC hg
end Go.Proofs.Ytobhnababkpcbaa.Core
