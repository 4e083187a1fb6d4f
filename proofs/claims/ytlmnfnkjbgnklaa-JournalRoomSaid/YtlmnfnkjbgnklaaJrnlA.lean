/- A journal in memory: Append. -/
import Derived.Test.YtlmnfnkjbgnklaaJrnlS
set_option linter.unusedVariables false
set_option linter.unusedSimpArgs false
namespace Go.Proofs.Ytlmnfnkjbgnklaa.Jrnl
open Go.RowKit Go.Proofs.YtlmnfnkjbgnklaaW.PrintWords Go.Proofs.YtlmnfnkjbgnklaaW.PrintLast Go.Proofs.YtlmnfnkjbgnklaaW.PrintMore Go.Proofs.Ytlmnfnkjbgnklaa.TxnS Go.Proofs.Ytlmnfnkjbgnklaa.Txn Go.Proofs.Ytlmnfnkjbgnklaa.JS Go.Proofs.Ytlmnfnkjbgnklaa.Run Go.Proofs.Ytlmnfnkjbgnklaa.Spec
def wsJ (J : Jr) (l : List Ch) : List Ch := wsA J.ring (J.tail + (J.sizes.sum : Nat)) (blocksL (J.first + (J.sizes.length : Int)) l)
def appJ (J : Jr) (l : List Ch) : List Ch × Int × Jr := if ¬ right l then ([], 70, J) else if ¬ room J l.length then ([], 5, J) else (wsJ J l, 0, pushJ J (l.length + 1))
def APost (B jb : Nat) (v : Value) (w : World) (r : List Ch × Int × Jr) (e : Ending) (w' : World) : Prop :=
  ∃ u v', e = .returned (.tuple #[u, .int .i64 r.2.1]) ∧ w'.ownsRow w.heap.size 42 2 u r.1.length (cv r.1) ∧ JIs B w' jb v' r.2.2 ∧ Fr w w' (fp jb v) ∧ (∀ k, fp jb v' k → fp jb v k ∨ w.heap.size ≤ k) ∧ ∀ k, u.ownBlock = some k → ¬ fp jb v' k
theorem infoW : (Try.prog.info? 42).map (fun i => (i.zero, i.size, i.bytes)) = some (some (.agg #[.int .i64 0, .string ⟨#[]⟩]), 2, 24) := by kernel_rfl
theorem infoI : (Try.prog.info? 3).map (fun i => (i.zero, i.size, i.bytes)) = some (some (.int .i64 0), 1, 8) := by kernel_rfl
theorem own_mono {w : World} {b b' : Nat} {e : TypeId} {size : Nat} {v : Value} {n : Nat} {xs : List Value} (h : w.ownsRow b' e size v n xs) (hb : b ≤ b') : w.ownsRow b e size v n xs := by
  refine ⟨h.1, ?_⟩
  rcases h.2 with h2 | ⟨g, cap, cur, hv, hg, rest⟩
  · exact .inl h2
  · exact .inr ⟨g, cap, cur, hv, by omega, rest⟩
theorem own_step {w w' : World} {b : Nat} {e : TypeId} {size : Nat} {v : Value} {n : Nat} {xs : List Value} (h : w.ownsRow b e size v n xs) (hb : ∀ k, v.ownBlock = some k → w'.heap[k]? = w.heap[k]?) : w'.ownsRow b e size v n xs := by
  refine ⟨h.1, ?_⟩
  rcases h.2 with h2 | ⟨g, cap, cur, hv, hg, hh, rest⟩
  · exact .inl h2
  · exact .inr ⟨g, cap, cur, hv, hg, (hb g (by rw [hv]; rfl)).trans hh, rest⟩
theorem sv_push (l : List Nat) (n : Nat) : sv (l ++ [n]) = sv l ++ [.int .i64 (n : Int)] := by simp [sv]
section
variable {B jb : Nat} {v : Value} {J : Jr} {w : World}
set_option maxHeartbeats 3200000 in
set_option maxRecDepth 100000 in
theorem append_no1 (h : JIs B w jb v J) (l : List Ch) (A : Option Addr) (c : Nat) (hc : Chs w A l) (hl : l.length ≤ 1125899906842624) (hr : ¬ right l) :
    Calls Try.prog 11 #[ptr jb, .slice A l.length c] w fun e w' => e = .returned (.tuple #[.slice none 0 0, .int .i64 70]) ∧ Below w.heap.size w w' := by
  have hup := Try.underlying23
  have HC := Aside0.mk (check_calls l A c w hc hl)
  rw [show chk l = 70 from if_neg hr] at HC
  clear hc hr h
  unfold ptr
  go_enter Try.func11, Try.ntmps11
  go_wp2_with fail
  refine HC.out.mono ?_
  rintro e w1 ⟨rfl, hB⟩
  have HB := Aside0.mk hB
  clear hB
  go_wp2_with fail
  go_ret2
  exact ⟨rfl, by first | exact HB.out | exact below_drew1 HB.out⟩
set_option maxHeartbeats 3200000 in
set_option maxRecDepth 100000 in
theorem append_no2 (h : JIs B w jb v J) (hw : JW J) (l : List Ch) (A : Option Addr) (c : Nat) (hc : Chs w A l) (hr : right l) (hm : ¬ room J l.length) :
    Calls Try.prog 11 #[ptr jb, .slice A l.length c] w fun e w' => e = .returned (.tuple #[.slice none 0 0, .int .i64 5]) ∧ Below w.heap.size w w' := by
  have hup := Try.underlying23
  have hl : l.length ≤ 48 := hr.2
  have HC := Aside0.mk (check_calls l A c w hc (by omega))
  rw [show chk l = 0 from if_pos hr] at HC
  have HF : Aside0 (∀ W, Below w.heap.size w W → Calls Try.prog 21 #[ptr jb] W fun e w' => e = .returned (.int .i64 (J.ring - (J.sizes.sum : Nat))) ∧ Below W.heap.size W w') := ⟨fun W hb => free_calls (h.below hb) hw⟩
  have HN : Aside0 (∀ W, Below w.heap.size w W → Calls Try.prog 23 #[ptr jb] W fun e w' => e = .returned (.int .i64 (J.first + (J.sizes.length : Int))) ∧ Below W.heap.size W w') := ⟨fun W hb => next_calls (h.below hb) (by have := hw.f1; omega) (by have := hw.fn; omega) (by have := hw.sml; omega)⟩
  obtain ⟨fr, hfr⟩ : ∃ fr, fr = J.ring - (J.sizes.sum : Nat) := ⟨_, rfl⟩
  obtain ⟨nx, hnx⟩ : ∃ nx, nx = J.first + (J.sizes.length : Int) := ⟨_, rfl⟩
  rw [← hfr] at HF
  rw [← hnx] at HN
  have w1 : IntKind.i64.wrap ((l.length : Int) + 1) = (l.length : Int) + 1 := IntWalk.i64_in _ (by omega)
  have hb : decide ((l.length : Int) + 1 > fr) = true ∨ (decide ((l.length : Int) + 1 > fr) = false ∧ decide (nx > 1099511627776) = true) := by
    unfold room at hm
    simp
    omega
  clear hc hr h hw hm hfr hnx
  unfold ptr at *
  go_enter Try.func11, Try.ntmps11
  go_wp2_with fail
  refine HC.out.mono ?_
  rintro e w1 ⟨rfl, hB⟩
  have B1 := Aside0.mk hB
  clear hB HC
  go_wp2_with fail
  refine (HF.out _ B1.out).mono ?_
  rintro e w2 ⟨rfl, hB⟩
  have B2 := Aside0.mk (B1.out.trans (hB.mono B1.out.size))
  clear hB
  rcases hb with b1 | ⟨b1, b2⟩
  · go_wp2_with fail
    go_ret2
    exact ⟨rfl, B2.out⟩
  · go_wp2_with fail
    refine (HN.out _ B2.out).mono ?_
    rintro e w3 ⟨rfl, hB⟩
    have B3 := Aside0.mk (B2.out.trans (hB.mono B2.out.size))
    clear hB
    go_wp2_with fail
    go_ret2
    exact ⟨rfl, B3.out⟩
set_option maxHeartbeats 6400000 in
set_option maxRecDepth 100000 in
theorem append_yes (h : JIs B w jb v J) (hw : JW J) (hB : B ≤ w.heap.size) (l : List Ch) (A : Option Addr) (c : Nat) (hc : Chs w A l) (hr : right l) (hm : room J l.length) :
    Calls Try.prog 11 #[ptr jb, .slice A l.length c] w (APost B jb v w (wsJ J l, 0, pushJ J (l.length + 1))) := by
  have hu := Try.underlying72
  have hup := Try.underlying23
  have huw := Try.underlying42
  obtain ⟨Az, cz, rfl⟩ := h.slice
  have hl : l.length ≤ 48 := hr.2
  have HCk := Aside0.mk (check_calls l A c w hc (by omega))
  rw [show chk l = 0 from if_pos hr] at HCk
  have HF : Aside0 (∀ W, Below w.heap.size w W → Calls Try.prog 21 #[ptr jb] W fun e w' => e = .returned (.int .i64 (J.ring - (J.sizes.sum : Nat))) ∧ Below W.heap.size W w') := ⟨fun W hb => free_calls (h.below hb) hw⟩
  have HN : Aside0 (∀ W, Below w.heap.size w W → Calls Try.prog 23 #[ptr jb] W fun e w' => e = .returned (.int .i64 (J.first + (J.sizes.length : Int))) ∧ Below W.heap.size W w') := ⟨fun W hb => next_calls (h.below hb) (by have := hw.f1; omega) (by have := hw.fn; omega) (by have := hw.sml; omega)⟩
  have HE : Aside0 (∀ W, Below w.heap.size w W → Calls Try.prog 31 #[.int .i64 (J.first + (J.sizes.length : Int)), .slice A l.length c] W fun e w' => ∃ v, e = .returned (.tuple #[v, .int .i64 0]) ∧ w'.ownsRow W.heap.size 9 1 v (blocksL (J.first + (J.sizes.length : Int)) l).length (tv (blocksL (J.first + (J.sizes.length : Int)) l)) ∧ Below W.heap.size W w') := ⟨fun W hb => enc_yes (J.first + (J.sizes.length : Int)) l A c W (hc.below hb) (by have := hw.f1; omega) hm.2 hr⟩
  have HU : Aside0 (∀ W, Below w.heap.size w W → Calls Try.prog 32 #[ptr jb, .int .i64 (J.sizes.length : Int)] W fun e w' => e = .returned (.int .i64 (J.sizes.sum : Nat)) ∧ Below W.heap.size W w') := ⟨fun W hb => used_all (h.below hb) (by have := hw.sml; omega) (by have := hw.sml; omega)⟩
  obtain ⟨N, hN⟩ : ∃ N, N = l.length + 1 := ⟨_, rfl⟩
  have hbl : (blocksL (J.first + (J.sizes.length : Int)) l).length = N := by rw [hN]; simp [blocksL]
  rw [hbl] at HE
  obtain ⟨bl, hble⟩ : ∃ bl, bl = blocksL (J.first + (J.sizes.length : Int)) l := ⟨_, rfl⟩
  obtain ⟨fr, hfr⟩ : ∃ fr, fr = J.ring - (J.sizes.sum : Nat) := ⟨_, rfl⟩
  obtain ⟨nx, hnx⟩ : ∃ nx, nx = J.first + (J.sizes.length : Int) := ⟨_, rfl⟩
  rw [← hble] at HE hbl
  rw [← hfr] at HF
  rw [← hnx] at HN HE hble
  have HBL := Aside0.mk hbl
  have HBe := Aside0.mk hble
  have HNx := Aside0.mk hnx
  have q1 : IntKind.i64.wrap ((l.length : Int) + 1) = (l.length : Int) + 1 := IntWalk.i64_in _ (by omega)
  have b1 : decide ((l.length : Int) + 1 > fr) = false := decide_eq_false (by have := hm.1; omega)
  have b2 : decide (nx > 1099511627776) = false := decide_eq_false (by have := hm.2; omega)
  have H := Aside0.mk h
  have HW := Aside0.mk hw
  have HBs := Aside0.mk hB
  have HNl := Aside0.mk hN
  have HM := Aside0.mk hm
  clear hc hr h hm hfr hnx hw hB hN hbl hble
  unfold ptr at *
  go_enter Try.func11, Try.ntmps11
  go_wp2_with fail
  refine HCk.out.mono ?_
  rintro e w1 ⟨rfl, hB⟩
  have B1 := Aside0.mk hB
  clear hB HCk
  go_wp2_with fail
  refine (HF.out _ B1.out).mono ?_
  rintro e w2 ⟨rfl, hB⟩
  have B2 := Aside0.mk (B1.out.trans (hB.mono B1.out.size))
  clear hB
  go_wp2_with fail
  refine (HN.out _ B2.out).mono ?_
  rintro e w3 ⟨rfl, hB⟩
  have B3 := Aside0.mk (B2.out.trans (hB.mono B2.out.size))
  clear hB
  go_wp2_with fail
  refine (HN.out _ B3.out).mono ?_
  rintro e w4 ⟨rfl, hB⟩
  have B4 := Aside0.mk (B3.out.trans (hB.mono B3.out.size))
  clear hB
  go_wp2_with fail
  refine (HE.out _ B4.out).mono ?_
  rintro e w5 ⟨v5, rfl, hr, hB⟩
  obtain ⟨X, cx, rfl⟩ := own_slice hr
  have B5 := Aside0.mk (B4.out.trans (hB.mono B4.out.size))
  have X5 : Aside0 (Strs w5 X bl) := ⟨own_strs hr HBL.out.symm⟩
  clear hr hB
  go_upto_region 7 with fail
  have HC : Aside0 (∀ W, Below w.heap.size w W → W.cell? ⟨jb, 1, none⟩ = some (.int .i64 J.tail) ∧ W.cell? ⟨jb, 4, none⟩ = some (.slice Az J.sizes.length cz)) := ⟨fun W hb => ⟨(H.out.below hb).c1, (H.out.below hb).c4⟩⟩
  obtain ⟨sm, hsm⟩ : ∃ sm, sm = J.sizes.sum := ⟨_, rfl⟩
  rw [← hsm] at HU
  have HSm := Aside0.mk hsm
  have hsb : sm ≤ 255 := by have := HW.out.sml; omega
  have ht0 := HW.out.t0
  have ht1 : J.tail ≤ 255 := by have := HW.out.tr; have := HW.out.r255; omega
  have q2 : IntKind.i64.wrap (J.tail + (sm : Int)) = J.tail + (sm : Int) := IntWalk.i64_in _ (by omega)
  have B0 : Aside0 (Below w.heap.size w w5.drew) := ⟨below_drew1 B5.out⟩
  clear hsm b1 b2 q1
  go_cut [9] (fun v9 wc => v9 = .int .i64 (J.tail + (sm : Int)) ∧ Aside0 (Below w5.heap.size w5 wc))
  case first =>
    go_region_held3 (fun w' => w'.cell? ⟨jb, 1, none⟩ = some (.int .i64 J.tail) ∧ w'.cell? ⟨jb, 4, none⟩ = some (.slice Az J.sizes.length cz)) (first | exact HC.out _ B0.out | exact HC.out _ B6.out) (first
      | (go_at_call 32; refine (HU.out _ B0.out).mono ?_; rintro e w6 ⟨rfl, hB⟩; have B6 := Aside0.mk (B0.out.trans (hB.mono B0.out.size)); have B56 : Aside0 (Below w5.heap.size w5 w6) := ⟨(below_drew1 (Below.refl _ _)).trans hB⟩; clear hB))
    all_goals
      go_wp2_with fail
      go_meet
      case rel => exact ⟨rfl, B56⟩
  case rest =>
    obtain ⟨rfl, B56⟩ := hcut
    have B6 := Aside0.mk (B5.out.trans (B56.out.mono B5.out.size))
    have X6 := Aside0.mk (X5.out.below B56.out)
    clear B1 B2 B3 B4 B5 B0 B56 X5 HN HE HF HU
    go_upto_region 9 with fail
    obtain ⟨a, ha⟩ : ∃ a, a = J.tail + (sm : Int) := ⟨_, rfl⟩
    obtain ⟨r, hr⟩ : ∃ r, r = J.ring := ⟨_, rfl⟩
    have hws : Aside0 (wsJ J l = wsA r a bl) := ⟨by unfold wsJ; rw [ha, hr, HSm.out, HBe.out, HNx.out]⟩
    have c0 : Aside0 (∀ W, Below wc.heap.size wc W → W.cell? ⟨jb, 0, none⟩ = some (.int .i64 r)) := ⟨fun W hb => by rw [hr]; exact (H.out.below (B6.out.trans (hb.mono B6.out.size))).c0⟩
    have ha0 : 0 ≤ a := by omega
    have ha1 : a ≤ 510 := by omega
    have hr0 : ¬ r = 0 := by have := HW.out.r7; omega
    have hr7 : 0 < r := by have := HW.out.r7; omega
    have hr8 : r ≤ 255 := by have := HW.out.r255; omega
    have hNn : N ≤ 49 := by have := HNl.out; omega
    rw [← ha]
    have HA := Aside0.mk ha
    have HR := Aside0.mk hr
    clear HC q2 hsb ht0 ht1 hr ha
    go_wp2_with fail
    go_loopw [10, 50] (fun v10 v50 wr => ∃ i : Nat, i ≤ N ∧ v50 = .int .i64 (i : Int) ∧ Aside0 (wr.ownsRow wc.heap.size 42 2 v10 i (cv ((wsA r a bl).take i))) ∧ Aside0 (Below wc.heap.size wc wr)) (fun _ x _ => N - (intOf x).toNat)
    case atStart => exact ⟨0, by omega, rfl, ⟨own_nil _ _ _ _⟩, ⟨Below.refl _ _⟩⟩
    case round =>
      obtain ⟨i, hi, rfl, HRw, HBr⟩ := hrel
      by_cases hlt : i < N
      · obtain ⟨ad, rfl, cb⟩ := (X6.out.below HBr.out) i (by rw [HBL.out]; exact hlt)
        have hT := wsA_take r a bl i (by rw [HBL.out]; exact hlt)
        generalize bl[i]'(by rw [HBL.out]; exact hlt) = s at cb hT
        have HT := Aside0.mk hT
        have cr := c0.out _ HBr.out
        have hm := Int.emod_lt_of_pos (a + (i : Int)) hr7
        have hm0 := Int.emod_nonneg (a + (i : Int)) hr0
        have q1 : IntKind.i64.wrap (a + (i : Int)) = a + (i : Int) := IntWalk.i64_in _ (by omega)
        have q2 : IntKind.i64.wrap ((a + (i : Int)) % r + 1) = (a + (i : Int)) % r + 1 := IntWalk.i64_in _ (by omega)
        clear hT
        have hml : (i + 1) * 24 ≤ 140737488355328 := by omega
        go_wp2_with (at_builtin; refine print_append_cells wc.heap.size rfl (.tmp 55) (.tmp 67) 34 42 (.agg #[.int .i64 0, .string ⟨#[]⟩]) 2 24 rfl Try.underlying34 infoW rfl (by decide) (by decide) _ _ _ [.int .i64 ((a + (i : Int)) % r + 1), .string s] rfl rfl rfl (by intro u hu; simp at hu; rcases hu with rfl | rfl <;> rfl) HRw.out HBr.out HBr.out.size hml ?_; intro v8 w8 hr8 hb8 _ _; have R8 := Aside0.mk hr8; have B8 := Aside0.mk hb8; clear hr8 hb8)
        go_roundw
        case rel => exact ⟨i + 1, by omega, by simp, ⟨by rw [HT.out, cv_append]; exact R8.out⟩, B8⟩
        case measure => simp [intOf]; omega
      · obtain rfl : i = N := by omega
        have hR2 := HRw.out
        rw [List.take_of_length_le (by rw [wsA_length, HBL.out]; exact Nat.le_refl _), ← hws.out] at hR2
        obtain ⟨Y, cy, rfl⟩ := own_slice hR2
        have B9 := Aside0.mk (B6.out.trans (HBr.out.mono B6.out.size))
        have R9 := Aside0.mk (own_mono hR2 B6.out.size)
        have HRb : Aside0 (∀ k, (Value.slice Y i cy).ownBlock = some k → wc.heap.size ≤ k) := ⟨fun k hk => own_base hR2 k hk⟩
        have H9 := Aside0.mk (H.out.below B9.out)
        have HBw : Aside0 (B ≤ wr.heap.size) := ⟨Nat.le_trans HBs.out B9.out.size⟩
        have hsl : J.sizes.length ≤ 255 := HW.out.sml.2
        clear hR2 HRw c0 ha0 ha1 hr0 hr7 hr8
        have c4 := H9.out.c4
        have f4 := blk_frozen H9.out.blk 4
        go_upto_region 14 with fail
        have BA := Aside0.mk (below_alloc (Below.refl wr.heap.size wr) (.cells #[.int .i64 (i : Int)] 3))
        have HA9 := Aside0.mk (H9.out.below BA.out)
        have CA := Aside0.mk ((blk_cell (blk_new wr (.cells #[.int .i64 (i : Int)] 3)) 0).trans (Eq.refl (some (Value.int .i64 (i : Int)))))
        have SA : Aside0 ((wr.alloc (.cells #[.int .i64 (i : Int)] 3)).heap.size = wr.heap.size + 1) := ⟨by simp⟩
        have HK6 : Aside0 (∀ w6, (wr.alloc (.cells #[.int .i64 (i : Int)] 3)).grownBy w6 (Value.slice Az J.sizes.length cz).ownBlock → w6.heap[jb]? = some (.cells #[.int .i64 J.ring, .int .i64 J.tail, .int .i64 J.first, .int .i64 J.sealed, .slice Az J.sizes.length cz] 72 (0, 0))) := ⟨fun w6 hg => (hg.block jb (blk_lt HA9.out.blk) (fun e => H.out.ne e.symm)).trans HA9.out.blk⟩
        go_wp2_with (at_builtin; refine wpList_push rfl B (.tmp 74) (.tmp 77) 58 3 (.int .i64 0) 8 rfl Try.underlying58 infoI rfl _ _ (.int .i64 (i : Int)) ⟨wr.heap.size, 0, none⟩ 1 rfl rfl CA.out rfl HA9.out.row (by rw [sv_length]; simp only [maxLen]; omega) (by rw [sv_length]; omega) (by rw [SA.out]; have := HBw.out; omega) ?_; intro A6 n6 w6 hr6 hg6 ho6; have R6 := Aside0.mk hr6; have G6 := Aside0.mk hg6; have O6 := Aside0.mk ho6; have K6 := Aside0.mk (HK6.out w6 hg6); have f6 := blk_frozen K6.out 4; clear hr6 hg6 ho6; have c6 := (blk_cell K6.out 4).trans (Eq.refl (some (Value.slice Az J.sizes.length cz))))
        obtain ⟨v7, hv7⟩ : ∃ v7, v7 = Value.slice A6 ((sv J.sizes).length + 1) n6 := ⟨_, rfl⟩
        rw [← hv7] at R6 O6 ⊢
        have ne7 : v7.ownBlock ≠ some jb := by
          rcases O6.out with e | e
          · intro h2; exact H.out.ne (Eq.trans (Eq.symm e) h2)
          · rw [e, SA.out]
            intro h2
            have h3 := blk_lt H9.out.blk
            have := Option.some.inj h2
            omega
        have hlt0 : ∀ k, fp jb (Value.slice Az J.sizes.length cz) k → k < w.heap.size := fun k hk => H.out.lt hk
        have J7 : JIs B (w6.setCell ⟨jb, 4, none⟩ v7) jb v7 (pushJ J (l.length + 1)) := by
          refine ⟨blk_set K6.out 4 _, ?_, H.out.bd, ne7⟩
          have e : sv (pushJ J (l.length + 1)).sizes = sv J.sizes ++ [.int .i64 (i : Int)] := by rw [← HNl.out]; exact sv_push _ _
          rw [e]
          exact R6.out.step fun k hk => blk_set_ne 4 _ (fun e => ne7 (e ▸ hk))
        have F7 : Fr wr (w6.setCell ⟨jb, 4, none⟩ v7) (fp jb (Value.slice Az J.sizes.length cz)) :=
          ((Fr.of_below BA.out _).trans (Fr.of_grown G6.out (f := fp jb (Value.slice Az J.sizes.length cz)) (fun k hk => .inr hk)) (fun _ h => .inl h)).trans (Fr.set w6 jb 4 v7 (f := fp jb (Value.slice Az J.sizes.length cz)) (.inl rfl)) (fun _ h => .inl h)
        have R7 : (w6.setCell ⟨jb, 4, none⟩ v7).ownsRow w.heap.size 42 2 (Value.slice Y i cy) (wsJ J l).length (cv (wsJ J l)) := by
          have e : (wsJ J l).length = i := by rw [hws.out, wsA_length, HBL.out]
          rw [e]
          refine own_step R9.out fun k hk => F7.block k (own_lt R9.out k hk) (fun hf => ?_)
          have h1 := hlt0 k hf
          have h2 := HRb.out k hk
          have h3 := B6.out.size
          omega
        refine bodyPost_ret (v := .tuple #[.slice Y i cy, .int .i64 0]) (by simp [results, Try.results11, go_sem]) rfl ⟨_, _, rfl, R7, J7, (Fr.of_below B9.out _).trans F7 (fun _ h => .inl h), fun k hk => ?_, fun k hk hf => ?_⟩
        · rcases hk with rfl | hk
          · exact .inl (.inl rfl)
          · rcases O6.out with e | e
            · exact .inl (.inr (Eq.trans (Eq.symm e) hk))
            · rw [e, SA.out] at hk
              have := Option.some.inj hk
              have := B9.out.size
              exact .inr (by omega)
        · have h1 := own_lt R9.out k hk
          have h2 := HRb.out k hk
          have h3 := B6.out.size
          rcases hf with rfl | hf
          · have := hlt0 k (.inl rfl)
            omega
          · rcases O6.out with e | e
            · have := hlt0 k (.inr (Eq.trans (Eq.symm e) hf))
              omega
            · rw [e, SA.out] at hf
              have := Option.some.inj hf
              omega
theorem append_calls (h : JIs B w jb v J) (hw : JW J) (hB : B ≤ w.heap.size) (l : List Ch) (A : Option Addr) (c : Nat) (hc : Chs w A l) (hl : l.length ≤ 1125899906842624) :
    Calls Try.prog 11 #[ptr jb, .slice A l.length c] w (APost B jb v w (appJ J l)) := by
  unfold appJ
  by_cases hr : right l
  · rw [if_neg (fun e => e hr)]
    by_cases hm : room J l.length
    · rw [if_neg (fun e => e hm)]
      exact append_yes h hw hB l A c hc hr hm
    · rw [if_pos hm]
      refine (append_no2 h hw l A c hc hr hm).mono ?_
      rintro e w' ⟨rfl, hb⟩
      exact ⟨_, v, rfl, own_nil _ _ _ _, h.below hb, Fr.of_below hb _, fun _ hk => .inl hk, fun k hk => by cases hk⟩
  · rw [if_pos hr]
    refine (append_no1 h l A c hc hl hr).mono ?_
    rintro e w' ⟨rfl, hb⟩
    exact ⟨_, v, rfl, own_nil _ _ _ _, h.below hb, Fr.of_below hb _, fun _ hk => .inl hk, fun k hk => by cases hk⟩
end
end Go.Proofs.Ytlmnfnkjbgnklaa.Jrnl
