/- The walk of the law DevAll. -/
import Derived.Test.YtobhnababkpcbaaDevAll
set_option linter.unusedVariables false
set_option linter.unusedSimpArgs false
namespace Go.Proofs.Ytobhnababkpcbaa.Core
open Go.RowKit Go.Proofs.YtobhnababkpcbaaW.PrintWords Go.Proofs.YtobhnababkpcbaaW.PrintLast Go.Proofs.YtobhnababkpcbaaW.PrintMore Go.Proofs.Ytobhnababkpcbaa.Maps Go.Proofs.Ytobhnababkpcbaa.DevS Go.Proofs.Ytobhnababkpcbaa.Given Go.Proofs.Ytobhnababkpcbaa.Dev
theorem infoB : (Try.prog.info? 4).map (fun i => (i.zero, i.size, i.bytes)) = some (some (.bool false), 1, 1) := by kernel_rfl
set_option maxHeartbeats 6400000 in
set_option maxRecDepth 100000 in
theorem devAll (W : World) (A : Option Addr) (l : List Step) (cp : Nat) (hl : Kd.C stepK W A l.length l) (hg : ∀ s ∈ l, goodStep s) (keep : Bool) :
    Calls Try.prog 7 #[.slice A l.length cp, .bool keep] W fun e W' => e = .returned (.bool true) ∧ Below W.heap.size W W' := by
  have hus := Try.underlying30
  have hup := Try.underlying24
  have HL := Aside0.mk hl
  have HG := Aside0.mk hg
  clear hl hg
  go_enter Try.func7, Try.ntmps7
  go_wp2_with fail
  refine (new_yes W.heap.size 6 W (Nat.le_refl _) (by omega) (by omega)).mono ?_
  rintro e w1 ⟨db, lb, sb, rfl, hD1, hBe1, _⟩
  have E1 := Aside0.mk hD1
  have B1 := Aside0.mk hBe1
  clear hD1 hBe1
  unfold ptr
  go_wp2_with fail
  refine (new_yes W.heap.size 6 w1 B1.out.size (by omega) (by omega)).mono ?_
  rintro e w2 ⟨xb, lx, sx, rfl, hD2, hBe2, hx1, hx2, hx3⟩
  have S0 : Aside0 (St W.heap.size W w2 db xb (dNew 6) (dNew 6) (.slice none 0 0) keep 0) := ⟨⟨⟨lb, sb, .slice none 0 0, lx, sx, .slice none 0 0, E1.out.below hBe2, hD2, fun k hk hk2 => by
    have h1 := E1.out.fp_lt hk
    rcases hk2 with rfl | rfl | rfl | h
    · omega
    · omega
    · omega
    · simp [Value.ownBlock] at h⟩, own_nil _ _ _ _, B1.out.trans (hBe2.mono B1.out.size)⟩⟩
  clear hD2 hBe2 hx1 hx2 hx3 E1 B1
  unfold ptr
  by_cases h200 : l.length > 200
  · have b200 : decide (l.length > 200) = true := decide_eq_true h200
    go_wp2_with fail
    refine (speaks_calls _).mono ?_
    rintro e w5 ⟨rfl, hb5⟩
    have B5 := Aside0.mk (S0.out.bel.trans (hb5.mono S0.out.bel.size))
    clear hb5
    go_wp2_with fail
    go_ret
    exact ⟨rfl, B5.out⟩
  · have b200 : decide (l.length > 200) = false := decide_eq_false h200
    go_wp2_with fail
    go_loopw [9, 65] (fun v9 v65 wr => ∃ (i : Nat) (d x : D), i ≤ l.length ∧ v65 = .int .i64 (i : Int) ∧ Aside0 (St W.heap.size W wr db xb d x v9 keep d.q.length) ∧ Aside0 (InvA keep d x) ∧ Aside0 (d.q.length ≤ i)) (fun _ y _ => l.length - (intOf y).toNat)
    case atStart => exact ⟨0, dNew 6, dNew 6, by omega, rfl, S0, ⟨invA_start keep⟩, ⟨by simp [dNew]⟩⟩
    case round =>
      obtain ⟨i, d, x, hi, rfl, HS, HI, HQ⟩ := hrel
      by_cases hlt : i < l.length
      · obtain ⟨ad, A', c', rfl, hcell, hpk, hpc⟩ := step_at HL.out i hlt
        generalize l[i] = s at hcell hpk hpc
        obtain ⟨e0, e1, e2, e3, e4, e5, e6⟩ := step_cells hcell HS.out.bel
        have HPK := Aside0.mk (And.intro hpk hpc)
        have P0 := Aside0.mk (blk_new wr (.cells (sobj s A' c') 30))
        have B0 := Aside0.mk (below_alloc (Below.refl wr.heap.size wr) (.cells (sobj s A' c') 30))
        unfold sobj at P0 B0
        clear hcell hpk hpc
        go_upto_region 9 with fail
        generalize hW1 : wr.alloc (.cells #[.int .i64 s.kind, .int .i64 s.at_, .int .i64 s.many, .int .i64 s.odd, .int .i64 s.torn, .int .u8 s.c, .slice A' s.picks.length c'] 30) = W1 at P0 B0 ⊢
        clear hW1 e0 e1 e2 e3 e4 e5 e6
        have S1 := Aside0.mk (HS.out.below B0.out HS.out.bel.size)
        generalize hg1 : wr.heap.size = g1 at P0 B0 ⊢
        have q0 := (blk_cell P0.out 0).trans (Eq.refl (some (Value.int .i64 s.kind)))
        have q1 := (blk_cell P0.out 1).trans (Eq.refl (some (Value.int .i64 s.at_)))
        have q2 := (blk_cell P0.out 2).trans (Eq.refl (some (Value.int .i64 s.many)))
        have q3 := (blk_cell P0.out 3).trans (Eq.refl (some (Value.int .i64 s.odd)))
        have q4 := (blk_cell P0.out 4).trans (Eq.refl (some (Value.int .i64 s.torn)))
        have q5 := (blk_cell P0.out 5).trans (Eq.refl (some (Value.int .u8 s.c)))
        have q6 := (blk_cell P0.out 6).trans (Eq.refl (some (Value.slice A' s.picks.length c')))
        clear B0 hg1 HS
        have hds := dataS_size s.many s.odd s.c
        have HDt : Aside0 (∀ w3 : World, Below W.heap.size W w3 → Calls Try.prog 11 #[.agg #[.int .i64 s.kind, .int .i64 s.at_, .int .i64 s.many, .int .i64 s.odd, .int .i64 s.torn, .int .u8 s.c, .slice A' s.picks.length c']] w3 fun e w' => e = .returned (.string (dataS s.many s.odd s.c)) ∧ Below w3.heap.size w3 w') := ⟨fun w3 hb3 => data_calls s.kind s.at_ s.many s.odd s.torn s.c A' c' s.picks w3 (Kd.C_below HPK.out.1 hb3) HPK.out.2⟩
        generalize dataS s.many s.odd s.c = dta at hds HDt
        have HW : Aside0 (∀ w3 : World, Below W1.heap.size W1 w3 → Calls Try.prog 10 #[.pointer (some ⟨db, 0, none⟩), .int .i64 s.at_, .string dta] w3 (fun e w4 => e = .returned (.int .i64 (dWrite d s.at_ dta).2) ∧ St W.heap.size W w4 db xb (dWrite d s.at_ dta).1 x u9 keep d.q.length ∧ w4.heap[g1]? = some (.cells #[.int .i64 s.kind, .int .i64 s.at_, .int .i64 s.many, .int .i64 s.odd, .int .i64 s.torn, .int .u8 s.c, .slice A' s.picks.length c'] 30 (0, 0)))) := ⟨fun w3 hb3 => by
          have hS3 := S1.out.below hb3 S1.out.bel.size
          have hP3 := blk_below P0.out hb3
          exact hS3.left hS3.bel.size (fun l1 s1 v1 hD => write_calls hD hS3.bel.size (by omega) (by have := HQ.out; omega)) (fun w4 hS4 _ hk4 => ⟨rfl, hS4, hk4 _ _ hP3⟩)⟩
        go_cut [75] (fun v75 wc => v75 = .bool ((dWrite d s.at_ dta).2 == 0) ∧ St W.heap.size W wc db xb (dWrite d s.at_ dta).1 x u9 keep d.q.length ∧ wc.heap[g1]? = some (.cells #[.int .i64 s.kind, .int .i64 s.at_, .int .i64 s.many, .int .i64 s.odd, .int .i64 s.torn, .int .u8 s.c, .slice A' s.picks.length c'] 30 (0, 0)))
        case first =>
          have P1d : Aside0 (W1.drew.heap[g1]? = some (.cells #[.int .i64 s.kind, .int .i64 s.at_, .int .i64 s.many, .int .i64 s.odd, .int .i64 s.torn, .int .u8 s.c, .slice A' s.picks.length c'] 30 (0, 0))) := ⟨P0.out⟩
          have HDt2 := Aside0.mk (HDt.out W1.drew (below_drew1 S1.out.bel))
          clear HDt
          go_region_with (first
            | (go_at_call 11; refine HDt2.out.mono ?_; rintro e w3 ⟨rfl, hb3⟩; have qq1 := (blk_cell (blk_below P1d.out hb3) 1).trans (Eq.refl (some (Value.int .i64 s.at_))); have T3 := Aside0.mk (below_step (below_drew1 (Below.refl _ _)) hb3); clear hb3)
            | (go_at_call 10; refine (HW.out _ T3.out).mono ?_; rintro e w4 ⟨rfl, hs4, hp4⟩; have T4 := Aside0.mk (And.intro hs4 hp4); clear hs4 hp4))
          all_goals
            go_wp2_with fail
            go_meet
            case rel => exact ⟨rfl, T4.out⟩
        case rest =>
          obtain ⟨rfl, hS5, hP5⟩ := hcut
          have S5 := Aside0.mk hS5
          have P5 := Aside0.mk hP5
          clear q0 q1 q2 q3 q4 q5 q6 P0 S1 HW hS5 hP5
          by_cases hok : (dWrite d s.at_ dta).2 = 0
          · have hokb : ((dWrite d s.at_ dta).2 == 0) = true := by simp [hok]
            have HI2 := Aside0.mk (invA_write HI.out s.at_ dta hok)
            rw [hokb]
            clear hok hokb
            have hml : ((List.replicate d.q.length (Value.bool keep)).length + 1) * 1 ≤ 140737488355328 := by rw [List.length_replicate]; have := HQ.out; omega
            go_upto_region 11 with (at_builtin; refine print_append W.heap.size rfl (.tmp 76) (.tmp 78) 23 4 (.bool false) 1 rfl Try.underlying23 infoB rfl (by decide) _ _ (.bool keep) rfl rfl rfl S5.out.row S5.out.bel S5.out.bel.size hml ?_; intro v6 w6 hr6 hb6 hg6 _)
            obtain ⟨hS6, hk6⟩ := S5.out.append hg6 hr6 hb6
            have S6 := Aside0.mk hS6
            have P6 := Aside0.mk (hk6 _ _ P5.out)
            clear hS6 hk6 hr6 hb6 hg6 S5 P5
            rcases Bool.eq_false_or_eq_true keep with hk | hk
            · subst hk
              have HWx : Aside0 (∀ w7 : World, Below w6.heap.size w6 w7 → Calls Try.prog 10 #[.pointer (some ⟨xb, 0, none⟩), .int .i64 s.at_, .string dta] w7 (fun e w8 => e = .returned (.int .i64 (dWrite x s.at_ dta).2) ∧ St W.heap.size W w8 db xb (dWrite d s.at_ dta).1 (dWrite x s.at_ dta).1 v6 true (d.q.length + 1))) := ⟨fun w7 hb7 => by
                have hS7 := S6.out.below hb7 S6.out.bel.size
                have hxq : x.q.length ≤ 1000000 := by have h1 := HI.out.2.2.2; rw [if_pos rfl] at h1; rw [h1]; have := HQ.out; omega
                exact hS7.right hS7.bel.size (fun l1 s1 v1 hD => write_calls hD hS7.bel.size (by omega) hxq) (fun w8 hS8 _ _ => ⟨rfl, hS8⟩)⟩
              have P6d : Aside0 (w6.drew.heap[g1]? = some (.cells #[.int .i64 s.kind, .int .i64 s.at_, .int .i64 s.many, .int .i64 s.odd, .int .i64 s.torn, .int .u8 s.c, .slice A' s.picks.length c'] 30 (0, 0))) := ⟨P6.out⟩
              have HDt2 := Aside0.mk (HDt.out w6.drew (below_drew1 S6.out.bel))
              have q0 := (blk_cell P6.out 0).trans (Eq.refl (some (Value.int .i64 s.kind)))
              have q1 := (blk_cell P6.out 1).trans (Eq.refl (some (Value.int .i64 s.at_)))
              have q2 := (blk_cell P6.out 2).trans (Eq.refl (some (Value.int .i64 s.many)))
              have q3 := (blk_cell P6.out 3).trans (Eq.refl (some (Value.int .i64 s.odd)))
              have q4 := (blk_cell P6.out 4).trans (Eq.refl (some (Value.int .i64 s.torn)))
              have q5 := (blk_cell P6.out 5).trans (Eq.refl (some (Value.int .u8 s.c)))
              have q6 := (blk_cell P6.out 6).trans (Eq.refl (some (Value.slice A' s.picks.length c')))
              clear HDt
              go_wp2_with fail
              go_region_with (first
                | (go_at_call 11; refine HDt2.out.mono ?_; rintro e w7 ⟨rfl, hb7⟩; have qq1 := (blk_cell (blk_below P6d.out hb7) 1).trans (Eq.refl (some (Value.int .i64 s.at_))); have T7 := Aside0.mk (below_step (below_drew1 (Below.refl _ _)) hb7); clear hb7)
                | (go_at_call 10; refine (HWx.out _ T7.out).mono ?_; rintro e w8 ⟨rfl, hs8⟩; have T8 := Aside0.mk hs8; clear hs8))
              all_goals
                have HI3 : Aside0 (InvA true (dWrite d s.at_ dta).1 (dWrite x s.at_ dta).1 ∧ (dWrite d s.at_ dta).1.q.length = d.q.length + 1) := ⟨⟨by simpa using HI2.out.1, HI2.out.2⟩⟩
                clear q0 q1 q2 q3 q4 q5 q6 P6 P6d HDt2 HWx HI2 HI S6
                go_wp2_with fail
                go_roundw
                case rel => exact ⟨i + 1, _, _, by omega, by simp, ⟨by rw [HI3.out.2]; exact T8.out⟩, ⟨HI3.out.1⟩, ⟨by rw [HI3.out.2]; have := HQ.out; omega⟩⟩
                case measure => simp [intOf]; omega
            · subst hk
              go_wp2_with fail
              go_roundw
              case rel => exact ⟨i + 1, _, x, by omega, by simp, ⟨by rw [HI2.out.2]; exact S6.out⟩, ⟨by simpa using HI2.out.1⟩, ⟨by rw [HI2.out.2]; have := HQ.out; omega⟩⟩
              case measure => simp [intOf]; omega
          · have hokb : ((dWrite d s.at_ dta).2 == 0) = false := by simp [hok]
            have hd' : (dWrite d s.at_ dta).1 = d := by
              rcases write_cases d s.at_ dta with h | h
              · exact absurd h.1 hok
              · exact h.2
            rw [hokb]
            rw [hd'] at S5
            clear hok hokb hd'
            go_wp2_with fail
            go_roundw
            case rel => exact ⟨i + 1, d, x, by omega, by simp, S5, HI, ⟨by have := HQ.out; omega⟩⟩
            case measure => simp [intOf]; omega
      · obtain rfl : i = l.length := by omega
        have hqm : d.q.length ≤ 1000000 := by have := HQ.out; omega
        have hxm : x.q.length ≤ 1000000 := by have h1 := HI.out.2.2.2; rw [h1]; split <;> simp [dNew] <;> omega
        have HE := Aside0.mk (invA_end HI.out)
        have HF : Aside0 (Calls Try.prog 18 #[.pointer (some ⟨xb, 0, none⟩)] wr (fun e w8 => e = .returned (.tuple #[]) ∧ St W.heap.size W w8 db xb d (dFlush x) u9 keep d.q.length)) := ⟨HS.out.right HS.out.bel.size (fun l1 s1 v1 hD => flush_calls hD HS.out.bel.size hxm) (fun w8 hS8 _ _ => ⟨rfl, hS8⟩)⟩
        clear HI hxm
        go_wp2_with fail
        refine HF.out.mono ?_
        rintro e w8 ⟨rfl, hs8⟩
        have S8 := Aside0.mk hs8
        clear hs8
        have hCr : ∃ Ap cc, u9 = .slice Ap (List.replicate d.q.length keep).length cc ∧ Calls Try.prog 12 #[.pointer (some ⟨db, 0, none⟩), .slice Ap (List.replicate d.q.length keep).length cc, .int .i64 0] w8 (fun e w9 => e = .returned (.int .i64 (dCrash d (List.replicate d.q.length keep) 0).2) ∧ St W.heap.size W w9 db xb (dCrash d (List.replicate d.q.length keep) 0).1 (dFlush x) u9 keep d.q.length) := by
          obtain ⟨l1, s1, v1, l2, s2, v2, h1, h2, h3⟩ := S8.out.two
          obtain ⟨Ap, cc, hv, _, _⟩ := S8.out.row.picks h1
          refine ⟨Ap, cc, hv, S8.out.left S8.out.bel.size (fun l1 s1 v1 hD => ?_) (fun w9 hS9 _ _ => ⟨rfl, hS9⟩)⟩
          obtain ⟨Ap2, cc2, hv2, hp2, hs2⟩ := S8.out.row.picks hD
          rw [hv] at hv2
          simp only [Value.slice.injEq] at hv2
          obtain ⟨rfl, _, rfl⟩ := hv2
          exact crash_calls hD S8.out.bel.size hqm hp2 (by rw [List.length_replicate]; omega) hs2
        obtain ⟨Ap, cc, hv9, hCr⟩ := hCr
        rw [HE.out.1, List.length_replicate] at hCr
        rw [List.length_replicate] at hv9
        have HCr := Aside0.mk hCr
        clear hCr
        subst hv9
        go_wp2_with fail
        refine HCr.out.mono ?_
        rintro e w9 ⟨rfl, hs9⟩
        have S9 := Aside0.mk hs9
        clear hs9 HCr HF
        generalize dCrash d (List.replicate d.q.length keep) 0 = dcp at HE S9
        obtain ⟨dC, rC⟩ := dcp
        dsimp only at HE S9
        generalize dFlush x = xF at HE S9
        go_wp2_with fail
        have hWt : Calls Try.prog 21 #[.pointer (some ⟨db, 0, none⟩)] w9 (fun e w' => e = .returned (.int .i64 0) ∧ w' = w9) := by
          obtain ⟨l1, s1, v1, l2, s2, v2, h1, h2, h3⟩ := S9.out.two
          have := waits_calls h1
          rw [HE.out.2.1] at this
          exact this
        refine hWt.mono ?_
        rintro e w10 ⟨rfl, rfl⟩
        clear hWt
        have T9 := Aside0.mk (And.intro S9.out.two S9.out.bel)
        clear S8 S9 HS
        go_wp2_with fail
        go_loopw [12] (fun v12 wq => ∃ j : Nat, j ≤ 6 ∧ v12 = .int .i64 (j : Int) ∧ Aside0 (Two W.heap.size wq db xb dC xF) ∧ Aside0 (Below W.heap.size W wq)) (fun y _ => 6 - (intOf y).toNat)
        case atStart => exact ⟨0, by omega, rfl, ⟨T9.out.1⟩, ⟨T9.out.2⟩⟩
        case round =>
          obtain ⟨j, hj, rfl, HT, HBq⟩ := hrel
          by_cases hj6 : j < 6
          · have HR : Aside0 (∀ w3 : World, Below wr.heap.size wr w3 → Calls Try.prog 13 #[.pointer (some ⟨db, 0, none⟩), .int .i64 (j : Int)] w3 (fun e w' => e = .returned (.tuple #[.string (dRead dC j).1, .int .i64 (dRead dC j).2]) ∧ Below w3.heap.size w3 w')) := ⟨fun w3 h3 => by
              obtain ⟨l1, s1, v1, l2, s2, v2, h1, h2, _⟩ := HT.out
              exact read_calls (h1.below h3) j⟩
            have HRx : Aside0 (∀ w3 : World, Below wr.heap.size wr w3 → Calls Try.prog 13 #[.pointer (some ⟨xb, 0, none⟩), .int .i64 (j : Int)] w3 (fun e w' => e = .returned (.tuple #[.string (dRead dC j).1, .int .i64 (dRead xF j).2]) ∧ Below w3.heap.size w3 w')) := ⟨fun w3 h3 => by
              obtain ⟨l1, s1, v1, l2, s2, v2, h1, h2, _⟩ := HT.out
              rw [(HE.out.2.2 j).1]
              exact read_calls (h2.below h3) j⟩
            have HLs : Aside0 (∀ w3 : World, Below wr.heap.size wr w3 → Calls Try.prog 14 #[.pointer (some ⟨db, 0, none⟩), .int .i64 (j : Int)] w3 (fun e w' => e = .returned (.tuple #[.string (dRead dC j).1, .int .i64 (dLasts dC j).2]) ∧ Below w3.heap.size w3 w')) := ⟨fun w3 h3 => by
              obtain ⟨l1, s1, v1, l2, s2, v2, h1, h2, _⟩ := HT.out
              rw [(HE.out.2.2 j).2]
              exact lasts_calls (h1.below h3) j⟩
            generalize (dRead dC j).1 = str at HR HRx HLs
            go_wp2_with fail
            refine (HR.out _ (Below.refl _ _)).mono ?_
            rintro e w3 ⟨rfl, hb3⟩
            have T3 := Aside0.mk hb3
            clear hb3
            go_wp2_with fail
            refine (HRx.out _ T3.out).mono ?_
            rintro e w4 ⟨rfl, hb4⟩
            have T4 := Aside0.mk (T3.out.trans (hb4.mono T3.out.size))
            clear hb4
            go_wp2_with fail
            refine (HLs.out _ T4.out).mono ?_
            rintro e w5 ⟨rfl, hb5⟩
            have T5 := Aside0.mk (T4.out.trans (hb5.mono T4.out.size))
            clear hb5
            go_wp2_with fail
            go_roundw
            case rel => exact ⟨j + 1, by omega, by simp, ⟨HT.out.below T5.out⟩, ⟨HBq.out.trans (T5.out.mono HBq.out.size)⟩⟩
            case measure => simp [intOf]; omega
          · obtain rfl : j = 6 := by omega
            go_wp2_with fail
            refine (speaks_calls _).mono ?_
            rintro e w6 ⟨rfl, hb6⟩
            have T6 := Aside0.mk (HBq.out.trans (hb6.mono HBq.out.size))
            clear hb6
            go_wp2_with fail
            go_ret
            exact ⟨rfl, T6.out⟩
theorem DevAll (W : World) (A : Option Addr) (n cp : Nat) (l : List Step) (h : (Kd.slice 30 stepK).K W l [.slice A n cp]) (hg : ∀ s ∈ l, goodStep s) (keep : Bool) :
    Calls Try.prog 7 #[.slice A n cp, .bool keep] W fun e W' => e = .returned (.bool true) ∧ Below W.heap.size W W' := by
  obtain ⟨A1, c1, he, hcc, hC⟩ := h
  obtain ⟨rfl, rfl, rfl⟩ : A = A1 ∧ n = l.length ∧ cp = c1 := by simpa using he
  exact devAll W A l cp hC hg keep
end Go.Proofs.Ytobhnababkpcbaa.Core
