/- The walk of the law JournalRoom. -/
import Derived.Test.YtlmnfnkjbgnklaaJrnlR
set_option linter.unusedVariables false
set_option linter.unusedSimpArgs false
namespace Go.Proofs.Ytlmnfnkjbgnklaa.Core
open Go.RowKit Go.Proofs.YtlmnfnkjbgnklaaW.PrintWords Go.Proofs.YtlmnfnkjbgnklaaW.PrintLast Go.Proofs.YtlmnfnkjbgnklaaW.PrintMore Go.Proofs.Ytlmnfnkjbgnklaa.TxnS Go.Proofs.Ytlmnfnkjbgnklaa.Txn Go.Proofs.Ytlmnfnkjbgnklaa.JS Go.Proofs.Ytlmnfnkjbgnklaa.Run Go.Proofs.Ytlmnfnkjbgnklaa.Jrnl
theorem RowX_cut2 {w : World} {B : Nat} {e : TypeId} {xs : List Value} {A : Option Addr} {n c k : Nat} (h : RowX w B e (.slice A n c) xs) (hn : n = xs.length) (hk : k ≤ n) : RowX w B e (.slice (if c = k then A else A.map (fun x => x.add k)) (n - k) (c - k)) (xs.drop k) ∧ (Value.slice (if c = k then A else A.map (fun x => x.add k)) (n - k) (c - k)).ownBlock = (Value.slice A n c).ownBlock := by
  subst hn
  have hc : xs.length ≤ c := by
    rcases h with ⟨h1, h2⟩ | ⟨g, off, cap, C, h1, _, _, h3, _⟩
    · simp only [Value.slice.injEq] at h1; omega
    · simp only [Value.slice.injEq] at h1; omega
  by_cases he : c = k
  · obtain rfl : xs.length = c := by omega
    have := RowX.cut (k := k) h rfl (by omega)
    rw [if_pos he] at this ⊢
    exact this
  · rw [if_neg he]
    have h2 := h.drop A xs.length c k rfl hk (c - k) (by omega) (by omega)
    have e : (A.map fun a => (⟨a.block, a.off + k, a.spot⟩ : Addr)) = A.map (fun x => x.add k) := by
      rcases h with ⟨h1, _⟩ | ⟨g, off, cap, C, h1, _⟩
      · simp only [Value.slice.injEq] at h1
        rw [h1.1]; rfl
      · simp only [Value.slice.injEq] at h1
        rw [h1.1]; simp [Addr.add]
    refine ⟨by rwa [e] at h2, ?_⟩
    rcases h with ⟨h1, _⟩ | ⟨g, off, cap, C, h1, _⟩
    · simp only [Value.slice.injEq] at h1
      rw [h1.1]; rfl
    · simp only [Value.slice.injEq] at h1
      rw [h1.1]; simp only [Option.map_some, Value.ownBlock, Addr.add]; split <;> rfl
theorem RS_cut {W w : World} {jb : Nat} {v : Value} {A : Option Addr} {n c k : Nat} {J : Jr} {l : List Nat} (h : RS W w jb v (.slice A n c) J l) (hn : n = l.length) (hk : k ≤ n) : RS W w jb v (.slice (if c = k then A else A.map (fun x => x.add k)) (n - k) (c - k)) J (l.drop k) := by
  obtain ⟨h1, h2⟩ := RowX_cut2 (k := k) h.uu (by rw [sv_length]; exact hn) hk
  rw [← sv_drop] at h1
  exact ⟨h.j, h1, h.b, fun i hi => h.d i (by rwa [h2] at hi), h.ok⟩
set_option maxHeartbeats 6400000 in
set_option maxRecDepth 100000 in
theorem journalRoom (W : World) (n : Int) (A : Option Addr) (l : List Stp) (cp : Nat) (hl : Stps W A l) (hg : ∀ s ∈ l, goodS s) :
    Calls Try.prog 4 #[.int .i64 n, .slice A l.length cp] W fun e W' => e = .returned (.bool true) ∧ Below W.heap.size W W' := by
  have hus := Try.underlying33
  have hup := Try.underlying23
  have huw := Try.underlying42
  have HL := Aside0.mk hl
  have HG := Aside0.mk hg
  clear hl hg
  by_cases hn : n < 8 ∨ 256 < n
  · have HN := Aside0.mk hn
    clear hn
    go_enter Try.func4, Try.ntmps4
    go_wp2_with fail
    refine (new_no n W HN.out).mono ?_
    rintro e w1 ⟨rfl, hb1⟩
    have T1 := Aside0.mk hb1
    clear hb1
    go_wp2_with fail
    refine (speaks_calls _).mono ?_
    rintro e w5 ⟨rfl, hb5⟩
    have T5 := Aside0.mk (T1.out.trans (hb5.mono T1.out.size))
    clear hb5
    go_wp2_with fail
    go_ret
    exact ⟨rfl, T5.out⟩
  have hn1 : 8 ≤ n := by omega
  have hn2 : n ≤ 256 := by omega
  clear hn
  go_enter Try.func4, Try.ntmps4
  go_wp2_with fail
  refine (new_yes n W hn1 hn2).mono ?_
  rintro e w1 ⟨jb, rfl, hJ1, hB1⟩
  have S0 : Aside0 (RS W w1 jb (.slice none 0 0) (.slice none 0 0) (newJ n) []) := ⟨⟨hJ1, RowX.nil _ _ _, hB1, (fun k hk => by cases hk), newJ_ok hn1 hn2⟩⟩
  clear hJ1 hB1
  unfold ptr
  by_cases h300 : l.length > 300
  · have b300 : decide (l.length > 300) = true := decide_eq_true h300
    go_wp2_with fail
    refine (speaks_calls _).mono ?_
    rintro e w5 ⟨rfl, hb5⟩
    have B5 := Aside0.mk (S0.out.b.trans (hb5.mono S0.out.b.size))
    clear hb5
    go_wp2_with fail
    go_ret
    exact ⟨rfl, B5.out⟩
  · have b300 : decide (l.length > 300) = false := decide_eq_false h300
    go_wp2_with fail
    go_loopw [7, 8, 46] (fun v7 v8 v46 wr => ∃ (i : Nat) (J : Jr) (v : Value), i ≤ l.length ∧ v46 = .int .i64 (i : Int) ∧ Aside0 (RS W wr jb v v7 J J.sizes) ∧ v8 = .int .i64 (J.first + (J.sizes.length : Int)) ∧ Aside0 (J.ring = n - 1)) (fun _ _ y _ => l.length - (intOf y).toNat)
    case atStart => exact ⟨0, newJ n, _, by omega, rfl, S0, by simp [newJ], ⟨rfl⟩⟩
    case round =>
      clear S0
      obtain ⟨i, J, v, hi, rfl, HS, rfl, HR⟩ := hrel
      obtain ⟨A7, c7, rfl⟩ := HS.out.uu.slice
      rw [sv_length] at HS ⊢
      by_cases hlt : i < l.length
      · obtain ⟨ad, A', c', rfl, hcell, hch⟩ := (HL.out.below HS.out.b) i hlt
        have hgs := HG.out _ (List.getElem_mem hlt)
        generalize l[i] = s at hcell hch hgs
        obtain ⟨e0, e1, e2⟩ := stp_cells hcell
        have P0 := Aside0.mk (blk_new wr (.cells #[.int .i64 s.kind, .int .i64 s.k, .slice A' s.l.length c'] 33))
        have B0 := Aside0.mk (below_alloc (Below.refl wr.heap.size wr) (.cells #[.int .i64 s.kind, .int .i64 s.k, .slice A' s.l.length c'] 33))
        have HCh := Aside0.mk (hch.below B0.out)
        have HGs := Aside0.mk hgs
        clear hcell hch hgs
        go_upto_region 9 with fail
        generalize hW1 : wr.alloc (.cells #[.int .i64 s.kind, .int .i64 s.k, .slice A' s.l.length c'] 33) = W1 at P0 B0 HCh ⊢
        clear hW1 e0 e1 e2
        have S1 := Aside0.mk (HS.out.below B0.out)
        generalize hg1 : wr.heap.size = g1 at P0 B0 ⊢
        have q0 := (blk_cell P0.out 0).trans (Eq.refl (some (Value.int .i64 s.kind)))
        have q1 := (blk_cell P0.out 1).trans (Eq.refl (some (Value.int .i64 s.k)))
        have q2 := (blk_cell P0.out 2).trans (Eq.refl (some (Value.slice A' s.l.length c')))
        have NG : Aside0 (¬ fp jb v g1) := ⟨fun hf => by have := HS.out.j.lt hf; omega⟩
        clear B0 hg1 HS
        go_upto_block 2 with fail
        go_cut [7, 8] (fun v7 v8 wc => ∃ (J2 : Jr) (v2 : Value), RS W wc jb v2 v7 J2 J2.sizes ∧ v8 = .int .i64 (J2.first + (J2.sizes.length : Int)) ∧ J2.ring = n - 1)
        case first =>
          by_cases k0 : s.kind = 0 ∨ s.kind = 1
          · have HA := Aside0.mk (append_calls S1.out.j S1.out.ok S1.out.b.size s.l A' c' HCh.out (Nat.le_trans HGs.out.2.1 (by decide)))
            have HK1 : Aside0 ((s.kind == 0) = true ∨ ((s.kind == 0) = false ∧ (s.kind == 1) = true)) := ⟨by
              rcases k0 with k | k
              · exact .inl (by simp [k])
              · exact .inr ⟨by simp [k], by simp [k]⟩⟩
            unfold ptr at HA
            have hz : (appJ J s.l).2.1 = 0 ∨ (appJ J s.l).2.1 ≠ 0 := by omega
            rcases hz with hz | hz
            · have HZ := Aside0.mk (appJ_len J s.l hz)
              have hb : ((appJ J s.l).2.1 == 0) = true := by simp [hz]
              have HOk := Aside0.mk (appJ_ok S1.out.ok s.l)
              generalize appJ J s.l = x at *
              clear hz k0
              rcases HK1.out with k1 | ⟨k1, k2⟩
              all_goals
                go_wp2_with fail
                refine HA.out.mono ?_
                intro e w4 hp
                obtain ⟨Ar, cr, v2, rfl, hS4⟩ := S1.out.apost hp HOk.out
                have S4 := Aside0.mk hS4
                clear hp hS4 HA
                obtain ⟨z1, z2⟩ := HZ.out
                have hfn := S4.out.ok.fn
                have hf1 := S4.out.ok.f1
                have hlen : J.sizes.length ≤ 255 := S1.out.ok.sml.2
                have e3 : x.2.2.first + (x.2.2.sizes.length : Int) = J.first + (J.sizes.length : Int) + 1 := by rw [z2]; show J.first + ((J.sizes ++ [s.l.length + 1]).length : Int) = _; rw [List.length_append]; simp; omega
                have E3 := Aside0.mk e3
                have E4 : Aside0 (x.2.2.sizes = J.sizes ++ [x.1.length]) := ⟨by rw [z2, z1]; rfl⟩
                have E5 : Aside0 (x.2.2.ring = n - 1) := ⟨by rw [z2]; exact HR.out⟩
                rw [e3] at hfn
                have w9 : IntKind.i64.wrap (J.first + (J.sizes.length : Int) + 1) = J.first + (J.sizes.length : Int) + 1 := IntWalk.i64_in _ (by have := S1.out.ok.f1; omega)
                obtain ⟨N, hN⟩ : ∃ N, N = x.1.length := ⟨_, rfl⟩
                obtain ⟨r, hr⟩ : ∃ r, r = x.2.1 := ⟨_, rfl⟩
                obtain ⟨J2, hJ2⟩ : ∃ J2, J2 = x.2.2 := ⟨_, rfl⟩
                rw [← hN] at E4 ⊢
                rw [← hr] at hb ⊢
                rw [← hJ2] at E3 E4 E5 S4
                clear hN hr hJ2 e3 z1 z2 hfn hf1
                go_upto_region 14 with fail
                have SA := Aside0.mk (S4.out.below (below_alloc (Below.refl w4.heap.size w4) (.cells #[.int .i64 (N : Int)] 3)))
                have CA := Aside0.mk ((blk_cell (blk_new w4 (.cells #[.int .i64 (N : Int)] 3)) 0).trans (Eq.refl (some (Value.int .i64 (N : Int)))))
                go_wp2_with (at_builtin; refine wpList_push rfl W.heap.size (.tmp 64) (.tmp 67) 58 3 (.int .i64 0) 8 rfl Try.underlying58 infoI rfl _ _ (.int .i64 (N : Int)) ⟨w4.heap.size, 0, none⟩ 1 rfl rfl CA.out rfl SA.out.uu (by rw [sv_length]; simp only [maxLen]; omega) (by rw [sv_length]; omega) SA.out.b.size ?_; intro A6 n6 w6 hr6 hg6 ho6; have S6 := Aside0.mk (SA.out.push hr6 hg6 ho6); clear hr6 hg6 ho6)
                go_meet
                case rel => exact ⟨J2, v2, by rw [E4.out]; simpa [sv_length] using S6.out, by rw [E3.out], E5.out⟩
            · have HZ := Aside0.mk (appJ_err J s.l hz)
              have hb : ((appJ J s.l).2.1 == 0) = false := by simp [hz]
              have HOk := Aside0.mk (appJ_ok S1.out.ok s.l)
              generalize appJ J s.l = x at *
              clear hz k0
              rcases HK1.out with k1 | ⟨k1, k2⟩
              all_goals
                go_wp2_with fail
                refine HA.out.mono ?_
                intro e w4 hp
                obtain ⟨Ar, cr, v2, rfl, hS4⟩ := S1.out.apost hp HOk.out
                have S4 := Aside0.mk hS4
                clear hp hS4 HA
                go_wp2_with fail
                go_meet
                case rel => exact ⟨x.2.2, v2, by rw [HZ.out]; exact HZ.out ▸ S4.out, by rw [HZ.out], by rw [HZ.out]; exact HR.out⟩
          · have k0b : (s.kind == 0) = false := by simp; omega
            have k1b : (s.kind == 1) = false := by simp; omega
            by_cases k2 : s.kind = 2
            · have k2b : (s.kind == 2) = true := by simp [k2]
              by_cases hk : s.k < 0 ∨ J.sealed < s.k
              · have HD := Aside0.mk (done_no S1.out.j s.k hk)
                unfold ptr at HD
                clear k0 k2 hk
                go_wp2_with fail
                refine HD.out.mono ?_
                rintro e w4 ⟨rfl, hB⟩
                have S4 := Aside0.mk (S1.out.below (hB.trans (below_alloc (Below.refl w4.heap.size w4) (.cells #[.int .i64 0, .string ⟨#[]⟩] 42) |>.mono hB.size)))
                clear hB HD
                go_wp2_with fail
                go_meet
                case rel => exact ⟨J, v, S4.out, rfl, HR.out⟩
              · obtain ⟨k, hke⟩ : ∃ k : Nat, s.k = k := ⟨s.k.toNat, by omega⟩
                have hks : (k : Int) ≤ J.sealed := by omega
                have hkl : k ≤ J.sizes.length := by have := S1.out.ok.sn; omega
                have hlen : J.sizes.length ≤ 255 := S1.out.ok.sml.2
                have HD := Aside0.mk (done_yes S1.out.j S1.out.ok k hks)
                have HOk := Aside0.mk (doneJ_ok S1.out.ok k hks)
                unfold ptr at HD
                rw [hke] at P0 q1
                generalize headJ (doneJ J k) = hd at HD
                have b1 : decide (J.sizes.length < k) = false := decide_eq_false (by omega)
                have hkc : k ≤ c7 := by
                  rcases S1.out.uu with ⟨h1, h2⟩ | ⟨g, off, cap, C, h1, _, _, h3, _⟩
                  · simp only [Value.slice.injEq] at h1; omega
                  · simp only [Value.slice.injEq] at h1
                    rw [sv_length] at h3
                    omega
                have HKl := Aside0.mk hkl
                clear k0 k2 hk hks
                go_wp2_with fail
                refine HD.out.mono ?_
                intro e w4 hp
                have P4 : Aside0 (w4.heap[g1]? = some (.cells #[.int .i64 s.kind, .int .i64 (k : Int), .slice A' s.l.length c'] 33 (0, 0))) := ⟨by
                  obtain ⟨_, _, _, hf, _⟩ := hp
                  exact (hf.block _ (blk_lt P0.out) NG.out).trans P0.out⟩
                obtain ⟨v4, rfl, hS4⟩ := S1.out.post hp HOk.out
                have S4 := Aside0.mk hS4
                clear hp hS4 HD
                have P5 := Aside0.mk (((below_alloc (Below.refl w4.heap.size w4) (.cells #[.int .i64 0, .string hd] 42)).block _ (blk_lt P4.out)).trans P4.out)
                have S5 := Aside0.mk (S4.out.below (below_alloc (Below.refl w4.heap.size w4) (.cells #[.int .i64 0, .string hd] 42)))
                go_upto_region 18 with fail
                generalize w4.alloc (.cells #[.int .i64 0, .string hd] 42) = w5 at P5 S5 ⊢
                clear S4 P4 q0 q1 q2
                have q1 := (blk_cell P5.out 1).trans (Eq.refl (some (Value.int .i64 (k : Int))))
                have S6 := Aside0.mk (RS_cut (k := k) S5.out rfl HKl.out)
                have E6 : Aside0 ((Value.int .i64 (J.first + (J.sizes.length : Int))) = .int .i64 ((doneJ J k).first + ((doneJ J k).sizes.length : Int))) := ⟨by
                  show _ = Value.int .i64 (J.first + (k : Int) + ((J.sizes.drop k).length : Int))
                  rw [List.length_drop]
                  congr 1
                  omega⟩
                clear S5
                rcases Nat.lt_or_ge k c7 with hkk | hkk
                · have hne : ¬ c7 = k := by omega
                  rw [if_neg hne] at S6
                  go_wp2_with fail
                  go_meet
                  case rel => exact ⟨doneJ J k, v4, S6.out, E6.out, HR.out⟩
                · obtain rfl : c7 = k := by omega
                  rw [if_pos rfl, Nat.sub_self] at S6
                  go_wp2_with fail
                  go_meet
                  case rel => exact ⟨doneJ J c7, v4, S6.out, E6.out, HR.out⟩
            · have k2b : (s.kind == 2) = false := by simp; omega
              by_cases k3 : s.kind = 3
              · have k3b : (s.kind == 3) = true := by simp [k3]
                have HD := Aside0.mk (seal_calls S1.out.j S1.out.ok)
                have HOk := Aside0.mk (sealJ_ok S1.out.ok)
                unfold ptr at HD
                generalize headJ (sealJ J) = hd at HD
                clear k0 k2 k3
                go_wp2_with fail
                refine HD.out.mono ?_
                intro e w4 hp
                obtain ⟨v4, rfl, hS4⟩ := S1.out.post hp HOk.out
                have S4 := Aside0.mk hS4
                clear hp hS4 HD
                go_wp2_with fail
                go_meet
                case rel => exact ⟨sealJ J, v4, S4.out, rfl, HR.out⟩
              · have k3b : (s.kind == 3) = false := by simp; omega
                clear k0 k2 k3
                go_wp2_with fail
                go_meet
                case rel => exact ⟨J, v, S1.out, rfl, HR.out⟩
        case rest =>
          clear q0 q1 q2 P0 S1 HCh HGs
          obtain ⟨J2, v2, hS, rfl, hR⟩ := hcut
          obtain ⟨A8, c8, rfl⟩ := hS.uu.slice
          rw [sv_length] at hS ⊢
          have S2 := Aside0.mk hS
          have R2 := Aside0.mk hR
          have hsml := hS.ok.sml
          have hsn := hS.ok.sn
          have HCt := Aside0.mk (fun w' (hb : Below wc.heap.size wc w') => count_calls (S2.out.below hb).j)
          have HFr := Aside0.mk (fun w' (hb : Below wc.heap.size wc w') => free_calls (S2.out.below hb).j hS.ok)
          have HNx := Aside0.mk (fun w' (hb : Below wc.heap.size wc w') => next_calls (S2.out.below hb).j (by have := hS.ok.f1; omega) (by have := hS.ok.fn; omega) (by omega))
          unfold ptr at HCt HFr HNx
          have w1 : IntKind.i64.wrap (n - 1) = n - 1 := IntWalk.i64_in _ (by omega)
          obtain ⟨sm, hsm⟩ : ∃ sm, sm = J2.sizes.sum := ⟨_, rfl⟩
          obtain ⟨fr, hfr⟩ : ∃ fr, fr = J2.ring - (J2.sizes.sum : Nat) := ⟨_, rfl⟩
          rw [← hfr] at HFr
          have w2 : IntKind.i64.wrap ((sm : Int) + fr) = n - 1 := by rw [hfr, hsm, hR]; rw [show ((J2.sizes.sum : Nat) : Int) + (n - 1 - (J2.sizes.sum : Nat)) = n - 1 from by omega]; exact w1
          have b2 : decide (J2.sealed > (J2.sizes.length : Int)) = false := decide_eq_false (by omega)
          have HSm := Aside0.mk hsm
          clear hS hR hsm hfr hsn
          go_wp2_with fail
          go_loopw [15, 97] (fun v15 v97 wq => ∃ j : Nat, j ≤ J2.sizes.length ∧ v97 = .int .i64 (j : Int) ∧ v15 = .int .i64 ((J2.sizes.take j).sum : Nat) ∧ Aside0 (Below wc.heap.size wc wq)) (fun _ y _ => J2.sizes.length - (intOf y).toNat)
          case atStart => exact ⟨0, by omega, rfl, rfl, ⟨Below.refl _ _⟩⟩
          case round =>
            obtain ⟨j, hj, rfl, rfl, HBq⟩ := hrel
            by_cases hjt : j < J2.sizes.length
            · obtain ⟨g, off, cap, x1, x2⟩ := (S2.out.below HBq.out).uu.cell (i := j) (by rw [sv_length]; omega)
              simp only [Value.slice.injEq] at x1
              obtain ⟨rfl, -, rfl⟩ := x1
              have hT := sum_take_succ J2.sizes j hjt
              have hle := sum_take_le J2.sizes (j + 1)
              rw [sv_get] at x2
              generalize J2.sizes[j]'(by omega) = x at x2 hT
              generalize (J2.sizes.take j).sum = y at hT ⊢
              have w3 : IntKind.i64.wrap ((y : Int) + (x : Int)) = (y : Int) + (x : Int) := IntWalk.i64_in _ (by omega)
              have HT := Aside0.mk hT
              clear hT hle
              go_wp2_with fail
              go_roundw
              case rel => exact ⟨j + 1, by omega, by simp, by rw [HT.out]; simp, HBq⟩
              case measure => simp [intOf]; omega
            · obtain rfl : j = J2.sizes.length := by omega
              rw [List.take_length, ← HSm.out]
              go_wp2_with fail
              refine (HCt.out _ HBq.out).mono ?_
              rintro e w4 ⟨rfl, hB⟩
              have B4 := Aside0.mk (HBq.out.trans (hB.mono HBq.out.size))
              clear hB
              go_wp2_with fail
              refine (HFr.out _ B4.out).mono ?_
              rintro e w5 ⟨rfl, hB⟩
              have B5 := Aside0.mk (B4.out.trans (hB.mono B4.out.size))
              clear hB
              go_wp2_with fail
              refine (HNx.out _ B5.out).mono ?_
              rintro e w6 ⟨rfl, hB⟩
              have B6 := Aside0.mk (B5.out.trans (hB.mono B5.out.size))
              clear hB
              go_wp2_with fail
              go_roundw
              case rel => exact ⟨i + 1, J2, v2, by omega, by simp, ⟨S2.out.below B6.out⟩, rfl, R2⟩
              case measure => simp [intOf]; omega
      · obtain rfl : i = l.length := by omega
        have BF := Aside0.mk HS.out.b
        clear HS HR
        go_wp2_with fail
        refine (speaks_calls _).mono ?_
        rintro e w6 ⟨rfl, hb6⟩
        have B6 := Aside0.mk (BF.out.trans (hb6.mono BF.out.size))
        clear hb6
        go_wp2_with fail
        go_ret
        exact ⟨rfl, B6.out⟩
theorem JournalRoom (W : World) (n : Int) (hw : (Lit.int .i64 n).wf = true) (A : Option Addr) (m cp : Nat) (l : List Stp) (h : (Kd.slice 33 stpK).K W l [.slice A m cp]) (hg : ∀ s ∈ l, goodS s) :
    Calls Try.prog 4 #[.int .i64 n, .slice A m cp] W fun e W' => e = .returned (.bool true) ∧ Below W.heap.size W W' := by
  obtain ⟨rfl, hs⟩ := stps_of h
  exact journalRoom W n A l cp hs hg
end Go.Proofs.Ytlmnfnkjbgnklaa.Core
