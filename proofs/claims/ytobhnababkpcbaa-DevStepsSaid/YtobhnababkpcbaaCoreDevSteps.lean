/- The walk of the law DevSteps. -/
import Derived.Test.YtobhnababkpcbaaDevDuo
set_option linter.unusedVariables false
set_option linter.unusedSimpArgs false
namespace Go.Proofs.Ytobhnababkpcbaa.Core
open Go.RowKit Go.Proofs.YtobhnababkpcbaaW.PrintWords Go.Proofs.YtobhnababkpcbaaW.PrintLast Go.Proofs.YtobhnababkpcbaaW.PrintMore Go.Proofs.Ytobhnababkpcbaa.Maps Go.Proofs.Ytobhnababkpcbaa.DevS Go.Proofs.Ytobhnababkpcbaa.Given Go.Proofs.Ytobhnababkpcbaa.Dev
abbrev blkOf (s : Step) (A' : Option Addr) (c' : Nat) : Obj := .cells #[.int .i64 s.kind, .int .i64 s.at_, .int .i64 s.many, .int .i64 s.odd, .int .i64 s.torn, .int .u8 s.c, .slice A' s.picks.length c'] 30
theorem cells7 {w' : World} {g1 : Nat} {s : Step} {A' : Option Addr} {c' : Nat} (h : w'.heap[g1]? = some (.cells #[.int .i64 s.kind, .int .i64 s.at_, .int .i64 s.many, .int .i64 s.odd, .int .i64 s.torn, .int .u8 s.c, .slice A' s.picks.length c'] 30 (0, 0))) : w'.cell? ⟨g1, 0, none⟩ = some (.int .i64 s.kind) ∧ w'.cell? ⟨g1, 1, none⟩ = some (.int .i64 s.at_) ∧ w'.cell? ⟨g1, 2, none⟩ = some (.int .i64 s.many) ∧ w'.cell? ⟨g1, 3, none⟩ = some (.int .i64 s.odd) ∧ w'.cell? ⟨g1, 4, none⟩ = some (.int .i64 s.torn) ∧ w'.cell? ⟨g1, 5, none⟩ = some (.int .u8 s.c) ∧ w'.cell? ⟨g1, 6, none⟩ = some (.slice A' s.picks.length c') :=
  ⟨(blk_cell h 0).trans rfl, (blk_cell h 1).trans rfl, (blk_cell h 2).trans rfl, (blk_cell h 3).trans rfl, (blk_cell h 4).trans rfl, (blk_cell h 5).trans rfl, (blk_cell h 6).trans rfl⟩
theorem dWrite_len (d : D) (a : Int) (s : ByteArray) : (dWrite d a s).1.q.length ≤ d.q.length + 1 := by
  rcases write_cases d a s with ⟨_, e, _⟩ | ⟨_, e⟩
  · rw [e]; simp
  · rw [e]; omega
theorem dCrash_len (d : D) (p : List Bool) (t : Int) : (dCrash d p t).1.q.length ≤ d.q.length := by
  unfold dCrash
  split
  · exact Nat.le_refl _
  · split
    · exact Nat.le_refl _
    · simp
set_option maxHeartbeats 6400000 in
set_option maxRecDepth 100000 in
theorem devSteps (W : World) (n : Int) (A : Option Addr) (l : List Step) (cp : Nat) (hl : Kd.C stepK W A l.length l) (hg : ∀ s ∈ l, goodStep s) :
    Calls Try.prog 4 #[.int .i64 n, .slice A l.length cp] W fun e W' => e = .returned (.bool true) ∧ Below W.heap.size W W' := by
  have hus := Try.underlying30
  have hup := Try.underlying24
  have hur := Try.underlying47
  have hupr := Try.underlying38
  have HL := Aside0.mk hl
  have HG := Aside0.mk hg
  clear hl hg
  by_cases hn : n < 1 ∨ 1024 < n
  · have HN := Aside0.mk hn
    clear hn
    go_enter Try.func4, Try.ntmps4
    go_wp2_with fail
    refine (new_no n W HN.out).mono ?_
    rintro e w1 ⟨rfl, hb1⟩
    have T1 := Aside0.mk hb1
    clear hb1
    go_wp2_with fail
    refine (ref_new_no n w1 HN.out).mono ?_
    rintro e w2 ⟨rfl, hb2⟩
    have T2 := Aside0.mk (T1.out.trans (hb2.mono T1.out.size))
    clear hb2
    go_wp2_with fail
    refine (speaks_calls _).mono ?_
    rintro e w5 ⟨rfl, hb5⟩
    have T5 := Aside0.mk (T2.out.trans (hb5.mono T2.out.size))
    clear hb5
    go_wp2_with fail
    go_ret
    exact ⟨rfl, T5.out⟩
  obtain ⟨m, rfl⟩ : ∃ m : Nat, n = m := ⟨n.toNat, by omega⟩
  have hm1 : 1 ≤ m := by omega
  have hm2 : m ≤ 1024 := by omega
  clear hn
  go_enter Try.func4, Try.ntmps4
  go_wp2_with fail
  refine (new_yes W.heap.size m W (Nat.le_refl _) hm1 hm2).mono ?_
  rintro e w1 ⟨db, lb, sb, rfl, hD1, hBe1, _⟩
  have E1 := Aside0.mk hD1
  have B1 := Aside0.mk hBe1
  clear hD1 hBe1
  unfold ptr
  go_wp2_with fail
  refine (ref_new m w1 hm1 hm2).mono ?_
  rintro e w2 ⟨eb, v1, rfl, hR2, hBe2⟩
  have S0 : Aside0 (Duo W w2 db eb (dNew m) (dNew m)) := ⟨⟨⟨lb, sb, .slice none 0 0, v1, .slice none 0 0, E1.out.below hBe2, ⟨hR2.dev, ⟨hR2.row.1, by
    rcases hR2.row.2 with hh | ⟨g, cap, cur, rfl, hb, hrest⟩
    · exact .inl hh
    · exact .inr ⟨g, cap, cur, rfl, Nat.le_trans B1.out.size hb, hrest⟩⟩, own_nil _ _ _ _, Nat.le_trans B1.out.size hR2.be, hR2.wf, hR2.full⟩, fun k hk hk2 => by
    have h1 := E1.out.fp_lt hk
    have h2 := hR2.fr_ge hk2
    omega⟩, B1.out.trans (hBe2.mono B1.out.size)⟩⟩
  clear hR2 hBe2 E1 B1
  unfold ptr
  by_cases h300 : l.length > 300
  · have b300 : decide (l.length > 300) = true := decide_eq_true h300
    go_wp2_with fail
    refine (speaks_calls _).mono ?_
    rintro e w5 ⟨rfl, hb5⟩
    have B5 := Aside0.mk (S0.out.bel.trans (hb5.mono S0.out.bel.size))
    clear hb5
    go_wp2_with fail
    go_ret
    exact ⟨rfl, B5.out⟩
  · have b300 : decide (l.length > 300) = false := decide_eq_false h300
    go_wp2_with fail
    go_loopw [42] (fun v42 wr => ∃ (i : Nat) (d : D), i ≤ l.length ∧ v42 = .int .i64 (i : Int) ∧ Aside0 (Duo W wr db eb d d) ∧ Aside0 (InvD d) ∧ Aside0 (d.q.length ≤ i)) (fun y _ => l.length - (intOf y).toNat)
    case atStart => exact ⟨0, dNew m, by omega, rfl, S0, ⟨invD_new hm1⟩, ⟨by simp [dNew]⟩⟩
    case round =>
      clear S0
      obtain ⟨i, d, hi, rfl, HS, HI, HQ⟩ := hrel
      by_cases hlt : i < l.length
      · obtain ⟨ad, A', c', rfl, hcell, hpk, hpc⟩ := step_at HL.out i hlt
        have hpl : l[i].picks.length ≤ 140737488351232 := (HG.out _ (List.getElem_mem hlt)).1
        generalize l[i] = s at hcell hpk hpc hpl
        obtain ⟨e0, e1, e2, e3, e4, e5, e6⟩ := step_cells hcell HS.out.bel
        have HPK := Aside0.mk (And.intro hpk (And.intro hpc hpl))
        have P0 := Aside0.mk (blk_new wr (blkOf s A' c'))
        have B0 := Aside0.mk (below_alloc (Below.refl wr.heap.size wr) (blkOf s A' c'))
        clear hcell hpk hpc hpl
        go_upto_region 10 with fail
        generalize hW1 : wr.alloc (.cells #[.int .i64 s.kind, .int .i64 s.at_, .int .i64 s.many, .int .i64 s.odd, .int .i64 s.torn, .int .u8 s.c, .slice A' s.picks.length c'] 30) = W1 at P0 B0 ⊢
        clear hW1 e0 e1 e2 e3 e4 e5 e6
        have S1 := Aside0.mk (HS.out.below B0.out)
        generalize hg1 : wr.heap.size = g1 at P0 B0 ⊢
        have q0 := (blk_cell P0.out 0).trans (Eq.refl (some (Value.int .i64 s.kind)))
        have q1 := (blk_cell P0.out 1).trans (Eq.refl (some (Value.int .i64 s.at_)))
        have q2 := (blk_cell P0.out 2).trans (Eq.refl (some (Value.int .i64 s.many)))
        have q3 := (blk_cell P0.out 3).trans (Eq.refl (some (Value.int .i64 s.odd)))
        have q4 := (blk_cell P0.out 4).trans (Eq.refl (some (Value.int .i64 s.torn)))
        have q5 := (blk_cell P0.out 5).trans (Eq.refl (some (Value.int .u8 s.c)))
        have q6 := (blk_cell P0.out 6).trans (Eq.refl (some (Value.slice A' s.picks.length c')))
        clear B0 hg1 HS
        go_upto_block 2 with fail
        go_cut [60] (fun v60 wc => ∃ d2 : D, Duo W wc db eb d2 d2 ∧ InvD d2 ∧ d2.q.length ≤ i + 1 ∧ wc.heap[g1]? = some (.cells #[.int .i64 s.kind, .int .i64 s.at_, .int .i64 s.many, .int .i64 s.odd, .int .i64 s.torn, .int .u8 s.c, .slice A' s.picks.length c'] 30 (0, 0)))
        case first =>
          have hSize : W1.heap.size = W1.heap.size := rfl
          by_cases k0 : s.kind = 0 ∨ s.kind = 1
          · have hds := dataS_size s.many s.odd s.c
            have HDt : Aside0 (∀ w3 : World, Below W.heap.size W w3 → Calls Try.prog 11 #[.agg #[.int .i64 s.kind, .int .i64 s.at_, .int .i64 s.many, .int .i64 s.odd, .int .i64 s.torn, .int .u8 s.c, .slice A' s.picks.length c']] w3 fun e w' => e = .returned (.string (dataS s.many s.odd s.c)) ∧ Below w3.heap.size w3 w') := ⟨fun w3 hb3 => data_calls s.kind s.at_ s.many s.odd s.torn s.c A' c' s.picks w3 (Kd.C_below HPK.out.1 hb3) HPK.out.2.1⟩
            generalize dataS s.many s.odd s.c = dta at hds HDt
            have hI2 : InvD (dWrite d s.at_ dta).1 := invD_write HI.out S1.out.wf s.at_ dta
            have hQ2 : (dWrite d s.at_ dta).1.q.length ≤ i + 1 := Nat.le_trans (dWrite_len _ _ _) (by have := HQ.out; omega)
            have hW1 : ∀ w3 : World, Below W1.heap.size W1 w3 → Calls Try.prog 10 #[.pointer (some ⟨db, 0, none⟩), .int .i64 s.at_, .string dta] w3 (fun e w4 => e = .returned (.int .i64 (dWrite d s.at_ dta).2) ∧ Duo W w4 db eb (dWrite d s.at_ dta).1 d ∧ w4.heap[g1]? = some (.cells #[.int .i64 s.kind, .int .i64 s.at_, .int .i64 s.many, .int .i64 s.odd, .int .i64 s.torn, .int .u8 s.c, .slice A' s.picks.length c'] 30 (0, 0))) := fun w3 hb3 =>
              (S1.out.below hb3).left (fun l1 s1 v1 hD _ => write_calls hD (S1.out.below hb3).bel.size (by omega) (by have := HQ.out; omega)) (fun w4 hS4 _ hk4 => ⟨rfl, hS4, hk4 _ _ (blk_below P0.out hb3)⟩)
            have hW2 : ∀ w4 : World, Duo W w4 db eb (dWrite d s.at_ dta).1 d → w4.heap[g1]? = some (.cells #[.int .i64 s.kind, .int .i64 s.at_, .int .i64 s.many, .int .i64 s.odd, .int .i64 s.torn, .int .u8 s.c, .slice A' s.picks.length c'] 30 (0, 0)) → ∀ w5 : World, Below w4.heap.size w4 w5 → Calls Try.prog 17 #[.pointer (some ⟨eb, 0, none⟩), .int .i64 s.at_, .string dta] w5 (fun e w6 => e = .returned (.int .i64 (dWrite d s.at_ dta).2) ∧ Duo W w6 db eb (dWrite d s.at_ dta).1 (dWrite d s.at_ dta).1 ∧ w6.heap[g1]? = some (.cells #[.int .i64 s.kind, .int .i64 s.at_, .int .i64 s.many, .int .i64 s.odd, .int .i64 s.torn, .int .u8 s.c, .slice A' s.picks.length c'] 30 (0, 0))) := fun w4 hS4 hP4 w5 hb5 =>
              (hS4.below hb5).right (fun v1 v2 hD _ => ref_write hD (hS4.below hb5).bel.size (by omega) (by have := HQ.out; omega)) (fun w6 hS6 _ hk6 => ⟨rfl, hS6, hk6 _ _ (blk_below hP4 hb5)⟩)
            generalize dWrite d s.at_ dta = pr at hI2 hQ2 hW1 hW2
            obtain ⟨d2, r⟩ := pr
            have I2 := Aside0.mk hI2
            have Q2 := Aside0.mk hQ2
            have HW1 := Aside0.mk hW1
            have HW2 := Aside0.mk hW2
            have HB1 := Aside0.mk S1.out.bel
            have P1d : Aside0 (W1.drew.heap[g1]? = some (.cells #[.int .i64 s.kind, .int .i64 s.at_, .int .i64 s.many, .int .i64 s.odd, .int .i64 s.torn, .int .u8 s.c, .slice A' s.picks.length c'] 30 (0, 0))) := ⟨P0.out⟩
            have HK1 : Aside0 ((s.kind == 0) = true ∨ ((s.kind == 0) = false ∧ (s.kind == 1) = true)) := ⟨by
              rcases k0 with k | k
              · exact .inl (by simp [k])
              · exact .inr ⟨by simp [k], by simp [k]⟩⟩
            clear k0 hI2 hQ2 hW1 hW2 hds HPK HI HQ S1
            rcases HK1.out with k1 | ⟨k1, k2⟩
            all_goals
              go_wp2_with fail
              go_region_held3 (fun w' => w'.cell? ⟨g1, 0, none⟩ = some (.int .i64 s.kind) ∧ w'.cell? ⟨g1, 1, none⟩ = some (.int .i64 s.at_) ∧ w'.cell? ⟨g1, 2, none⟩ = some (.int .i64 s.many) ∧ w'.cell? ⟨g1, 3, none⟩ = some (.int .i64 s.odd) ∧ w'.cell? ⟨g1, 4, none⟩ = some (.int .i64 s.torn) ∧ w'.cell? ⟨g1, 5, none⟩ = some (.int .u8 s.c) ∧ w'.cell? ⟨g1, 6, none⟩ = some (.slice A' s.picks.length c')) (first | exact cells7 P1d.out | exact cells7 KK3.out | exact cells7 KK4.out | exact cells7 KK5.out | exact cells7 KK6.out) (first
                | (go_at_call 11; refine (HDt.out _ (by first | exact below_drew1 HB1.out | exact T4.out.1.bel)).mono ?_; rintro e w3 ⟨rfl, hb3⟩; first | (have KK5 := Aside0.mk (blk_below T4.out.2 hb3); have T5 := Aside0.mk hb3; clear hb3) | (have KK3 := Aside0.mk (blk_below P1d.out hb3); have T3 := Aside0.mk (below_step (below_drew1 (Below.refl _ _)) hb3); clear hb3))
                | (go_at_call 10; refine (HW1.out _ T3.out).mono ?_; rintro e w4 ⟨rfl, hs4, hp4⟩; have T4 := Aside0.mk (And.intro hs4 hp4); have KK4 := Aside0.mk hp4; clear hs4 hp4)
                | (go_at_call 17; refine (HW2.out _ T4.out.1 T4.out.2 _ T5.out).mono ?_; rintro e w6 ⟨rfl, hs6, hp6⟩; have T6 := Aside0.mk (And.intro hs6 hp6); have KK6 := Aside0.mk hp6; clear hs6 hp6))
              all_goals
                go_wp2_with fail
                go_meet
                case rel => exact ⟨d2, T6.out.1, I2.out, Q2.out, T6.out.2⟩
          · have k0b : (s.kind == 0) = false := by simp; omega
            have k1b : (s.kind == 1) = false := by simp; omega
            by_cases k2 : s.kind = 2
            · have k2b : (s.kind == 2) = true := by simp [k2]
              have hW1 : ∀ w3 : World, Below W1.heap.size W1 w3 → Calls Try.prog 18 #[.pointer (some ⟨db, 0, none⟩)] w3 (fun e w4 => e = .returned (.tuple #[]) ∧ Duo W w4 db eb (dFlush d) d ∧ w4.heap[g1]? = some (.cells #[.int .i64 s.kind, .int .i64 s.at_, .int .i64 s.many, .int .i64 s.odd, .int .i64 s.torn, .int .u8 s.c, .slice A' s.picks.length c'] 30 (0, 0))) := fun w3 hb3 =>
                (S1.out.below hb3).left (fun l1 s1 v1 hD _ => flush_calls hD (S1.out.below hb3).bel.size (by have := HQ.out; omega)) (fun w4 hS4 _ hk4 => ⟨rfl, hS4, hk4 _ _ (blk_below P0.out hb3)⟩)
              have hW2 : ∀ w4 : World, Duo W w4 db eb (dFlush d) d → w4.heap[g1]? = some (.cells #[.int .i64 s.kind, .int .i64 s.at_, .int .i64 s.many, .int .i64 s.odd, .int .i64 s.torn, .int .u8 s.c, .slice A' s.picks.length c'] 30 (0, 0)) → Calls Try.prog 19 #[.pointer (some ⟨eb, 0, none⟩)] w4 (fun e w6 => e = .returned (.tuple #[]) ∧ Duo W w6 db eb (dFlush d) (dFlush d) ∧ w6.heap[g1]? = some (.cells #[.int .i64 s.kind, .int .i64 s.at_, .int .i64 s.many, .int .i64 s.odd, .int .i64 s.torn, .int .u8 s.c, .slice A' s.picks.length c'] 30 (0, 0))) := fun w4 hS4 hP4 =>
                hS4.right (fun v1 v2 hD _ => ref_flush hD HI.out.1 hS4.bel.size (by have := HQ.out; omega)) (fun w6 hS6 _ hk6 => ⟨rfl, hS6, hk6 _ _ hP4⟩)
              have I2 := Aside0.mk (invD_flush HI.out)
              have Q2 : Aside0 ((dFlush d).q.length ≤ i + 1) := ⟨by simp [dFlush]⟩
              generalize dFlush d = d2 at hW1 hW2 I2 Q2
              have HW1 := Aside0.mk hW1
              have HW2 := Aside0.mk hW2
              clear k0 k2 hW1 hW2 HPK HI HQ S1
              go_wp2_with fail
              refine (HW1.out _ (by first | exact Below.refl _ _ | exact below_drew1 (Below.refl _ _))).mono ?_
              rintro e w4 ⟨rfl, hs4, hp4⟩
              have T4 := Aside0.mk (And.intro hs4 hp4)
              clear hs4 hp4
              go_wp2_with fail
              refine (HW2.out _ T4.out.1 T4.out.2).mono ?_
              rintro e w6 ⟨rfl, hs6, hp6⟩
              have T6 := Aside0.mk (And.intro hs6 hp6)
              clear hs6 hp6
              go_wp2_with fail
              go_meet
              case rel => exact ⟨d2, T6.out.1, I2.out, Q2.out, T6.out.2⟩
            · have k2b : (s.kind == 2) = false := by simp; omega
              by_cases k3 : s.kind = 3
              · have k3b : (s.kind == 3) = true := by simp [k3]
                obtain ⟨pk1, pk2⟩ := picks_of HPK.out.1
                have hPk : ∀ w3 : World, Below W.heap.size W w3 → Picks w3 A' s.picks := fun w3 hb => (picks_of (Kd.C_below HPK.out.1 hb)).1
                have hpl2 := HPK.out.2.2
                have hW1 : ∀ w3 : World, Below W1.heap.size W1 w3 → Calls Try.prog 12 #[.pointer (some ⟨db, 0, none⟩), .slice A' s.picks.length c', .int .i64 s.torn] w3 (fun e w4 => e = .returned (.int .i64 (dCrash d s.picks s.torn).2) ∧ Duo W w4 db eb (dCrash d s.picks s.torn).1 d ∧ w4.heap[g1]? = some (.cells #[.int .i64 s.kind, .int .i64 s.at_, .int .i64 s.many, .int .i64 s.odd, .int .i64 s.torn, .int .u8 s.c, .slice A' s.picks.length c'] 30 (0, 0))) := fun w3 hb3 =>
                  (S1.out.below hb3).left (fun l1 s1 v1 hD hge => crash_calls (A := A') (c := c') (picks := s.picks) (torn := s.torn) hD (S1.out.below hb3).bel.size (by have := HQ.out; omega) (hPk _ (S1.out.below hb3).bel) (by omega) (fun ad hA hne => ⟨fun hfp => by have h1 := hge _ hfp; have h2 := pk2 ad hA hne; omega, by have h2 := pk2 ad hA hne; have h3 := (S1.out.below hb3).bel.size; omega⟩)) (fun w4 hS4 _ hk4 => ⟨rfl, hS4, hk4 _ _ (blk_below P0.out hb3)⟩)
                have hW2 : ∀ w4 : World, Duo W w4 db eb (dCrash d s.picks s.torn).1 d → w4.heap[g1]? = some (.cells #[.int .i64 s.kind, .int .i64 s.at_, .int .i64 s.many, .int .i64 s.odd, .int .i64 s.torn, .int .u8 s.c, .slice A' s.picks.length c'] 30 (0, 0)) → Calls Try.prog 20 #[.pointer (some ⟨eb, 0, none⟩), .slice A' s.picks.length c', .int .i64 s.torn] w4 (fun e w6 => e = .returned (.int .i64 (dCrash d s.picks s.torn).2) ∧ Duo W w6 db eb (dCrash d s.picks s.torn).1 (dCrash d s.picks s.torn).1 ∧ w6.heap[g1]? = some (.cells #[.int .i64 s.kind, .int .i64 s.at_, .int .i64 s.many, .int .i64 s.odd, .int .i64 s.torn, .int .u8 s.c, .slice A' s.picks.length c'] 30 (0, 0))) := fun w4 hS4 hP4 =>
                  hS4.right (fun v1 v2 hD hge => ref_crash (A := A') (c := c') (picks := s.picks) (torn := s.torn) hD HI.out.1 hS4.bel.size (by have := HQ.out; omega) (hPk _ hS4.bel) (by omega) (fun ad hA hne => ⟨fun hfp => by have h1 := hge _ hfp; have h2 := pk2 ad hA hne; omega, by have h2 := pk2 ad hA hne; have h3 := hS4.bel.size; omega⟩)) (fun w6 hS6 _ hk6 => ⟨rfl, hS6, hk6 _ _ hP4⟩)
                have I2 := Aside0.mk (invD_crash HI.out s.picks s.torn)
                have Q2 : Aside0 ((dCrash d s.picks s.torn).1.q.length ≤ i + 1) := ⟨Nat.le_trans (dCrash_len _ _ _) (by have := HQ.out; omega)⟩
                generalize dCrash d s.picks s.torn = pr at hW1 hW2 I2 Q2
                obtain ⟨d2, r⟩ := pr
                have HW1 := Aside0.mk hW1
                have HW2 := Aside0.mk hW2
                have P1d : Aside0 (W1.drew.heap[g1]? = some (.cells #[.int .i64 s.kind, .int .i64 s.at_, .int .i64 s.many, .int .i64 s.odd, .int .i64 s.torn, .int .u8 s.c, .slice A' s.picks.length c'] 30 (0, 0))) := ⟨P0.out⟩
                clear k0 k2 k3 hW1 hW2 HPK HI HQ S1 pk1 pk2 hPk hpl2
                go_wp2_with fail
                go_region_held3 (fun w' => w'.cell? ⟨g1, 0, none⟩ = some (.int .i64 s.kind) ∧ w'.cell? ⟨g1, 1, none⟩ = some (.int .i64 s.at_) ∧ w'.cell? ⟨g1, 2, none⟩ = some (.int .i64 s.many) ∧ w'.cell? ⟨g1, 3, none⟩ = some (.int .i64 s.odd) ∧ w'.cell? ⟨g1, 4, none⟩ = some (.int .i64 s.torn) ∧ w'.cell? ⟨g1, 5, none⟩ = some (.int .u8 s.c) ∧ w'.cell? ⟨g1, 6, none⟩ = some (.slice A' s.picks.length c')) (first | exact cells7 P1d.out | exact cells7 KK4.out | exact cells7 KK6.out) (first
                  | (go_at_call 12; refine (HW1.out _ (below_drew1 (Below.refl _ _))).mono ?_; rintro e w4 ⟨rfl, hs4, hp4⟩; have T4 := Aside0.mk (And.intro hs4 hp4); have KK4 := Aside0.mk hp4; clear hs4 hp4)
                  | (go_at_call 20; refine (HW2.out _ T4.out.1 T4.out.2).mono ?_; rintro e w6 ⟨rfl, hs6, hp6⟩; have T6 := Aside0.mk (And.intro hs6 hp6); have KK6 := Aside0.mk hp6; clear hs6 hp6))
                all_goals
                  go_wp2_with fail
                  go_meet
                  case rel => exact ⟨d2, T6.out.1, I2.out, Q2.out, T6.out.2⟩
              · have k3b : (s.kind == 3) = false := by simp; omega
                clear k0 k2 k3
                go_wp2_with fail
                go_meet
                case rel => exact ⟨d, S1.out, HI.out, by have := HQ.out; omega, P0.out⟩
        case rest =>
          clear q0 q1 q2 q3 q4 q5 q6 P0 S1 HI HQ HPK
          obtain ⟨d2, hS, hI, hQ, hP⟩ := hcut
          have hsame : ∀ w3 : World, Below wc.heap.size wc w3 → ∀ a : Int, Calls Try.prog 23 #[.pointer (some ⟨db, 0, none⟩), .pointer (some ⟨eb, 0, none⟩), .int .i64 a] w3 fun e w' => e = .returned (.bool true) ∧ Below w3.heap.size w3 w' := fun w3 hb a => same_calls (hS.below hb) hI (by omega) a
          have HSame := Aside0.mk hsame
          obtain ⟨lb2, sb2, v, v1, v2, h1, h2, h3⟩ := hS.two
          obtain ⟨Aq, cq, rfl⟩ := own_slice h2.que
          obtain ⟨Al, cl, rfl⟩ := own_slice h2.row
          have HWt : Aside0 (Calls Try.prog 21 #[.pointer (some ⟨db, 0, none⟩)] wc.drew fun e w' => e = .returned (.int .i64 d2.q.length) ∧ w' = wc.drew) := ⟨waits_calls (h1.below (below_drew1 (Below.refl _ _)))⟩
          have HBk : Aside0 (Calls Try.prog 22 #[.pointer (some ⟨db, 0, none⟩)] wc.drew fun e w' => e = .returned (.int .i64 d2.n) ∧ w' = wc.drew) := ⟨blocks_calls (h1.below (below_drew1 (Below.refl _ _)))⟩
          have K0 : Aside0 (wc.drew.cell? ⟨eb, 0, none⟩ = some (.slice Al d2.n cl) ∧ wc.drew.cell? ⟨eb, 1, none⟩ = some (.slice Aq d2.q.length cq) ∧ wc.drew.cell? ⟨g1, 1, none⟩ = some (.int .i64 s.at_)) := ⟨h2.c0, h2.c1, (blk_cell hP 1).trans rfl⟩
          have K1 : Aside0 (∀ w' : World, Below wc.heap.size wc w' → w'.cell? ⟨eb, 0, none⟩ = some (.slice Al d2.n cl) ∧ w'.cell? ⟨eb, 1, none⟩ = some (.slice Aq d2.q.length cq) ∧ w'.cell? ⟨g1, 1, none⟩ = some (.int .i64 s.at_)) := ⟨fun w' hb => ⟨(h2.below hb).c0, (h2.below hb).c1, (blk_cell (blk_below hP hb) 1).trans rfl⟩⟩
          have HS2 := Aside0.mk (And.intro hS (And.intro hI hQ))
          clear hS hI hQ hP h1 h2 h3 hsame
          go_wp2_with fail
          go_region_held3 (fun w' => w'.cell? ⟨eb, 0, none⟩ = some (.slice Al d2.n cl) ∧ w'.cell? ⟨eb, 1, none⟩ = some (.slice Aq d2.q.length cq) ∧ w'.cell? ⟨g1, 1, none⟩ = some (.int .i64 s.at_)) (first | exact K0.out | exact K1.out _ T5.out) (first
            | (go_at_call 21; refine HWt.out.mono ?_; rintro e w3 ⟨rfl, rfl⟩)
            | (go_at_call 22; refine HBk.out.mono ?_; rintro e w3 ⟨rfl, rfl⟩)
            | (go_at_call 23; refine (HSame.out _ (below_drew1 (Below.refl _ _)) _).mono ?_; rintro e w5 ⟨rfl, hb5⟩; have T5 := Aside0.mk (below_step (below_drew1 (Below.refl _ _)) hb5); clear hb5))
          all_goals
            go_wp2_with fail
            go_loopw [11] (fun v11 wq => ∃ j : Nat, j ≤ 6 ∧ v11 = .int .i64 (j : Int) ∧ Aside0 (Below wc.heap.size wc wq)) (fun y _ => 6 - (intOf y).toNat)
            case atStart => exact ⟨0, by omega, rfl, T5⟩
            case round =>
              clear T5 K0 HWt HBk
              obtain ⟨j, hj, rfl, HBq⟩ := hrel
              by_cases hj6 : j < 6
              · go_wp2_with fail
                refine (HSame.out _ HBq.out j).mono ?_
                rintro e w5 ⟨rfl, hb5⟩
                have T6 := Aside0.mk (HBq.out.trans (hb5.mono HBq.out.size))
                clear hb5
                go_wp2_with fail
                go_roundw
                case rel => exact ⟨j + 1, by omega, by simp, T6⟩
                case measure => simp [intOf]; omega
              · obtain rfl : j = 6 := by omega
                go_wp2_with fail
                go_roundw
                case rel => exact ⟨i + 1, d2, by omega, by simp, ⟨HS2.out.1.below HBq.out⟩, ⟨HS2.out.2.1⟩, ⟨HS2.out.2.2⟩⟩
                case measure => simp [intOf]; omega
      · obtain rfl : i = l.length := by omega
        have BF := Aside0.mk HS.out.bel
        clear HS HI HQ
        go_wp2_with fail
        refine (speaks_calls _).mono ?_
        rintro e w6 ⟨rfl, hb6⟩
        have B6 := Aside0.mk (BF.out.trans (hb6.mono BF.out.size))
        clear hb6
        go_wp2_with fail
        go_ret
        exact ⟨rfl, B6.out⟩
theorem DevSteps (W : World) (n : Int) (hw : (Lit.int .i64 n).wf = true) (A : Option Addr) (m cp : Nat) (l : List Step) (h : (Kd.slice 30 stepK).K W l [.slice A m cp]) (hg : ∀ s ∈ l, goodStep s) :
    Calls Try.prog 4 #[.int .i64 n, .slice A m cp] W fun e W' => e = .returned (.bool true) ∧ Below W.heap.size W W' := by
  obtain ⟨A1, c1, he, hcc, hC⟩ := h
  obtain ⟨rfl, rfl, rfl⟩ : A = A1 ∧ m = l.length ∧ cp = c1 := by simpa using he
  exact devSteps W n A l cp hC hg
end Go.Proofs.Ytobhnababkpcbaa.Core
