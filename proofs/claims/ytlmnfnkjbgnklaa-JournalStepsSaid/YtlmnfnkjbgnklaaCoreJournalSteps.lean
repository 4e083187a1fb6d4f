/- The walk of the law JournalSteps. -/
import Derived.Test.YtlmnfnkjbgnklaaJrnlDuo
set_option linter.unusedVariables false
set_option linter.unusedSimpArgs false
namespace Go.Proofs.Ytlmnfnkjbgnklaa.Core
open Go.RowKit Go.Proofs.YtlmnfnkjbgnklaaW.PrintWords Go.Proofs.YtlmnfnkjbgnklaaW.PrintLast Go.Proofs.YtlmnfnkjbgnklaaW.PrintMore Go.Proofs.Ytlmnfnkjbgnklaa.TxnS Go.Proofs.Ytlmnfnkjbgnklaa.Txn Go.Proofs.Ytlmnfnkjbgnklaa.JS Go.Proofs.Ytlmnfnkjbgnklaa.Run Go.Proofs.Ytlmnfnkjbgnklaa.Jrnl
theorem rd_lt {W : World} {A : Option Addr} {l : List Ch} {c : Nat} (h : Chs W A l) : ∀ k, rd (.slice A l.length c) k → k < W.heap.size := by
  intro k hk
  cases A with
  | none => exact absurd hk id
  | some ad =>
    obtain ⟨h1, rfl⟩ := hk
    obtain ⟨ad', e, h2, _⟩ := h 0 h1
    obtain rfl := Option.some.inj e
    have := World.block_lt_of_cell? W _ h2
    have e1 : (ad.add (0 * 2)).block = ad.block := by unfold Addr.add; split <;> rfl
    rwa [e1] at this
theorem stps_at {W w : World} {A : Option Addr} {l : List Stp} (h : Stps W A l) (hb : Below W.heap.size W w) (i : Nat) (hi : i < l.length) : ∃ ad A' c', A = some ad ∧ (∀ j u, (sobj l[i] A' c')[j]? = some u → w.cell? (ad.add (i * 3 + j)) = some u) ∧ Chs w A' l[i].l ∧ ∀ k, rd (.slice A' (l[i]).l.length c') k → k < W.heap.size := by
  obtain ⟨ad, A', c', e, hc, hl⟩ := h i hi
  refine ⟨ad, A', c', e, fun j u hu => ?_, hl.below hb, rd_lt hl⟩
  have := hc j u hu
  exact (World.cell?_of_block (hb.block _ (World.block_lt_of_cell? W _ this))).trans this
theorem fr_P {w w' : World} {f : Nat → Prop} {g : Nat} {o : Obj × Nat × Nat} (h : Fr w w' f) (hn : ¬ f g) {x : Option Obj} (hp : w.heap[g]? = x) (hx : x.isSome = true) : w'.heap[g]? = x := by
  refine (h.block g ?_ hn).trans hp
  rcases Nat.lt_or_ge g w.heap.size with h1 | h1
  · exact h1
  · rw [Array.getElem?_eq_none h1] at hp
    subst hp
    cases hx
set_option maxHeartbeats 6400000 in
set_option maxRecDepth 100000 in
theorem journalSteps (W : World) (n : Int) (A : Option Addr) (l : List Stp) (cp : Nat) (hl : Stps W A l) (hg : ∀ s ∈ l, goodS s) :
    Calls Try.prog 3 #[.int .i64 n, .slice A l.length cp] W fun e W' => e = .returned (.bool true) ∧ Below W.heap.size W W' := by
  have hus := Try.underlying33
  have hup := Try.underlying23
  have huw := Try.underlying42
  have hur := Try.underlying56
  have hupr := Try.underlying27
  have huwr := Try.underlying45
  have HL := Aside0.mk hl
  have HG := Aside0.mk hg
  clear hl hg
  by_cases hn : n < 8 ∨ 256 < n
  · have HN := Aside0.mk hn
    clear hn
    go_enter Try.func3, Try.ntmps3
    go_wp2_with fail
    refine (new_no n W HN.out).mono ?_
    rintro e w1 ⟨rfl, hb1⟩
    have T1 := Aside0.mk hb1
    clear hb1
    go_wp2_with fail
    refine (rnew_no n _ HN.out).mono ?_
    rintro e w2 ⟨rfl, hb2⟩
    have T2 := Aside0.mk (T1.out.trans (hb2.mono T1.out.size))
    clear hb2
    go_wp2_with fail
    refine (speaks_calls _).mono ?_
    rintro e w5 ⟨rfl, hb5⟩
    have T5 := Aside0.mk (T2.out.trans (hb5.mono T2.out.size))
    clear hb5
    go_wp2_with fail
    go_ret
    exact ⟨rfl, T5.out⟩
  have hn1 : 8 ≤ n := by omega
  have hn2 : n ≤ 256 := by omega
  clear hn
  go_enter Try.func3, Try.ntmps3
  go_wp2_with fail
  refine (new_yes n W hn1 hn2).mono ?_
  rintro e w1 ⟨jb, rfl, hJ1, hB1⟩
  have J1 := Aside0.mk hJ1
  have B1 := Aside0.mk hB1
  clear hJ1 hB1
  unfold ptr
  go_wp2_with fail
  refine (rnew_yes n w1 hn1 hn2).mono ?_
  rintro e w2 ⟨rb, rfl, hR2, hB2⟩
  have S0 : Aside0 (DS W w2 jb rb (.slice none 0 0) (.slice none 0 0) [] (newJ n) (newR n)) := ⟨by
    have hlt := J1.out.lt (.inl rfl)
    refine ⟨J1.out.below hB2, ⟨hR2.blk, RowX.nil _ _ _, hR2.uok, Nat.le_trans B1.out.size hR2.bd, hR2.ne, fun u hu => by simp at hu⟩, B1.out.trans (hB2.mono B1.out.size), fun k hk hk2 => ?_, fun u hu => by simp at hu⟩
    have h1 := hR2.ge hk2
    have h2 := J1.out.lt hk
    omega⟩
  clear hR2 hB2 J1 B1
  unfold ptr
  by_cases h300 : l.length > 300
  · have b300 : decide (l.length > 300) = true := decide_eq_true h300
    go_wp2_with fail
    refine (speaks_calls _).mono ?_
    rintro e w5 ⟨rfl, hb5⟩
    have B5 := Aside0.mk (S0.out.b.trans (hb5.mono S0.out.b.size))
    clear hb5
    go_wp2_with fail
    go_ret
    exact ⟨rfl, B5.out⟩
  · have b300 : decide (l.length > 300) = false := decide_eq_false h300
    go_wp2_with fail
    go_loopw [53] (fun v53 wr => ∃ (i : Nat) (R : RJ) (v v2 : Value) (us : List Value), i ≤ l.length ∧ v53 = .int .i64 (i : Int) ∧ Aside0 (DS W wr jb rb v v2 us R.jr R) ∧ Aside0 (JW R.jr)) (fun y _ => l.length - (intOf y).toNat)
    case atStart => exact ⟨0, newR n, _, _, _, by omega, rfl, S0, ⟨newJ_ok hn1 hn2⟩⟩
    case round =>
      clear S0
      obtain ⟨i, R, v, v2, us, hi, rfl, HS, HW⟩ := hrel
      by_cases hlt : i < l.length
      · obtain ⟨ad, A', c', rfl, hcell, hch, hrd0⟩ := stps_at HL.out HS.out.b i hlt
        have hgs := HG.out _ (List.getElem_mem hlt)
        generalize l[i] = s at hcell hch hgs hrd0
        obtain ⟨e0, e1, e2⟩ := stp_cells hcell
        have P0 := Aside0.mk (blk_new wr (.cells #[.int .i64 s.kind, .int .i64 s.k, .slice A' s.l.length c'] 33))
        have B0 := Aside0.mk (below_alloc (Below.refl wr.heap.size wr) (.cells #[.int .i64 s.kind, .int .i64 s.k, .slice A' s.l.length c'] 33))
        have HCh := Aside0.mk (And.intro (hch.below B0.out) hrd0)
        have HGs := Aside0.mk hgs
        clear hcell hch hgs hrd0
        go_upto_region 10 with fail
        generalize hW1 : wr.alloc (.cells #[.int .i64 s.kind, .int .i64 s.k, .slice A' s.l.length c'] 33) = W1 at P0 B0 HCh ⊢
        clear hW1 e0 e1 e2
        have S1 := Aside0.mk (HS.out.below B0.out)
        generalize hg1 : wr.heap.size = g1 at P0 B0 ⊢
        have q0 := (blk_cell P0.out 0).trans (Eq.refl (some (Value.int .i64 s.kind)))
        have q1 := (blk_cell P0.out 1).trans (Eq.refl (some (Value.int .i64 s.k)))
        have q2 := (blk_cell P0.out 2).trans (Eq.refl (some (Value.slice A' s.l.length c')))
        have NG : Aside0 (¬ fp jb v g1 ∧ ¬ fp rb v2 g1) := ⟨fun hf => by have := HS.out.j.lt hf; omega, fun hf => by have := HS.out.r.lt hf; omega⟩
        clear B0 hg1 HS
        go_upto_block 2 with fail
        go_cut [11] (fun v11 wc => ∃ (R2 : RJ) (v' v2' : Value) (us' : List Value), DS W wc jb rb v' v2' us' R2.jr R2 ∧ JW R2.jr)
        case first =>
          by_cases k0 : s.kind = 0 ∨ s.kind = 1
          · have HA := Aside0.mk (append_calls S1.out.j HW.out S1.out.b.size s.l A' c' HCh.out.1 (Nat.le_trans HGs.out.2.1 (by decide)))
            have HK1 : Aside0 ((s.kind == 0) = true ∨ ((s.kind == 0) = false ∧ (s.kind == 1) = true)) := ⟨by
              rcases k0 with k | k
              · exact .inl (by simp [k])
              · exact .inr ⟨by simp [k], by simp [k]⟩⟩
            have HB2 : Aside0 (∀ w4 (v' : Value), DS W w4 jb rb v' v2 us (appJ R.jr s.l).2.2 R → w4.heap.size ≥ W1.heap.size → Chs w4 A' s.l → Calls Try.prog 12 #[ptr rb, .slice A' s.l.length c'] w4 (fun e w' => ∃ us', RAPost W.heap.size rb v2 us w4 ((appJ R.jr s.l).1, (appJ R.jr s.l).2.1) us' (appR R s.l) e w' ∧ ∀ u ∈ us', u ∈ us ∨ u = .slice A' s.l.length c')) := ⟨fun w4 v' hS hs hc => by
              refine rappend_calls hS.r HW.out hS.b.size s.l A' c' hc (fun k hk => ?_) (Nat.le_trans HGs.out.2.1 (by decide))
              have h1 := HCh.out.2 k hk
              exact ⟨Nat.lt_of_lt_of_le h1 hS.b.size, fun hf => by have := hS.r.ge hf; omega⟩⟩
            have HOk := Aside0.mk (appJ_ok HW.out s.l)
            have HWl : Aside0 ((appJ R.jr s.l).1.length ≤ 1125899906842624) := ⟨by
              unfold appJ
              split
              · simp
              · split
                · simp
                · rename_i h1 h2
                  have := (Decidable.not_not.1 h1 : right s.l).2
                  simp only [wsJ, wsA_length, blocksL, List.length_cons, List.length_map]
                  omega⟩
            have HRJ := Aside0.mk (appR_jr R s.l)
            unfold ptr at HA HB2
            generalize appR R s.l = R' at HB2 HRJ
            generalize appJ R.jr s.l = x at *
            clear k0
            rcases HK1.out with k1 | ⟨k1, k2⟩
            all_goals
              go_wp2_with fail
              refine HA.out.mono ?_
              rintro e w4 ⟨u, v', rfl, hu, hj, hf, hp, hd⟩
              obtain ⟨Au, cu, rfl⟩ := own_slice hu
              have S4 := Aside0.mk (S1.out.left hj hf hp)
              have P4 := Aside0.mk ((hf.block _ (blk_lt P0.out) NG.out.1).trans P0.out)
              have U4 := Aside0.mk hu
              have Z4 := Aside0.mk hf.size
              have HC4 : Aside0 (Chs w4 A' s.l) := ⟨chs_step HCh.out.1 fun k hk => hf.block k (by have := HCh.out.2 k hk; have := S1.out.b.size; omega) (fun hfp => by have := HCh.out.2 k hk; have := S1.out.j.ge hfp; omega)⟩
              clear hu hj hf hp hd HA q0 q1 q2
              have q2 := (blk_cell P4.out 2).trans (Eq.refl (some (Value.slice A' s.l.length c')))
              go_wp2_with fail
              refine (HB2.out _ _ S4.out Z4.out HC4.out).mono ?_
              rintro e w5 ⟨us', ⟨u2, v2', rfl, hu2, hr2, hf2, hp2, hd2⟩, hus2⟩
              obtain ⟨Au2, cu2, rfl⟩ := own_slice hu2
              have S5 := Aside0.mk (S4.out.right hr2 hf2 hp2 (fun u hu => by
                rcases hus2 u hu with h1 | rfl
                · exact .inl h1
                · exact .inr fun k hk hfp => by have := HCh.out.2 k hk; have := S4.out.j.ge hfp; omega))
              have C5 : Aside0 (Chs w5 Au x.1) := ⟨own_chs' (own_step U4.out fun k hk => hf2.block k (own_lt U4.out k hk) (fun hfp => by have h1 := own_base U4.out k hk; have h2 := S1.out.r.lt hfp; omega)) rfl⟩
              have D5 := Aside0.mk (own_chs' hu2 rfl)
              clear hu2 hr2 hf2 hp2 hd2 hus2 q2
              go_wp2_with fail
              refine (writes_calls x.1 Au Au2 cu cu2 w5 C5.out D5.out HWl.out).mono ?_
              rintro e w6 ⟨rfl, hB⟩
              have S6 := Aside0.mk (S5.out.below hB)
              clear hB
              go_wp2_with fail
              go_meet
              case rel => exact ⟨R', _, _, _, HRJ.out ▸ S6.out, HRJ.out ▸ HOk.out⟩
          · have k0b : (s.kind == 0) = false := by simp; omega
            have k1b : (s.kind == 1) = false := by simp; omega
            by_cases k2 : s.kind = 2
            · have k2b : (s.kind == 2) = true := by simp [k2]
              by_cases hk : s.k < 0 ∨ R.sealed < s.k
              · have HD := Aside0.mk (done_no S1.out.j s.k hk)
                have HD2 : Aside0 (∀ w', Below W1.heap.size W1 w' → Calls Try.prog 15 #[ptr rb, .int .i64 s.k] w' fun e w'' => e = .returned (.tuple #[.agg #[.int .i64 0, .string ⟨#[]⟩], .int .i64 1]) ∧ Below w'.heap.size w' w'') := ⟨fun w' hb => rdone_no (S1.out.below hb).r s.k hk⟩
                unfold ptr at HD HD2
                clear k0 k2 hk
                go_wp2_with fail
                refine HD.out.mono ?_
                rintro e w4 ⟨rfl, hB⟩
                have P4 := Aside0.mk ((hB.block _ (blk_lt P0.out)).trans P0.out)
                have B4 := Aside0.mk hB
                clear hB HD
                have B5 := Aside0.mk (B4.out.trans ((below_alloc (Below.refl w4.heap.size w4) (.cells #[.int .i64 0, .string ⟨#[]⟩] 42)).mono B4.out.size))
                have P5 := Aside0.mk (((below_alloc (Below.refl w4.heap.size w4) (.cells #[.int .i64 0, .string ⟨#[]⟩] 42)).block _ (blk_lt P4.out)).trans P4.out)
                have X5 := Aside0.mk (blk_new w4 (.cells #[.int .i64 0, .string ⟨#[]⟩] 42))
                go_upto_region 19 with fail
                generalize w4.alloc (.cells #[.int .i64 0, .string ⟨#[]⟩] 42) = w5 at B5 P5 X5 ⊢
                generalize w4.heap.size = g5 at X5 ⊢
                clear B4 P4 q0 q1 q2
                have q1 := (blk_cell P5.out 1).trans (Eq.refl (some (Value.int .i64 s.k)))
                go_wp2_with fail
                refine (HD2.out _ B5.out).mono ?_
                rintro e w6 ⟨rfl, hB⟩
                have B6 := Aside0.mk (B5.out.trans (hB.mono B5.out.size))
                have X6 := Aside0.mk ((hB.block _ (blk_lt X5.out)).trans X5.out)
                clear hB q1
                have B7 := Aside0.mk (B6.out.trans ((below_alloc (Below.refl w6.heap.size w6) (.cells #[.int .i64 0, .string ⟨#[]⟩] 45)).mono B6.out.size))
                have X7 := Aside0.mk (((below_alloc (Below.refl w6.heap.size w6) (.cells #[.int .i64 0, .string ⟨#[]⟩] 45)).block _ (blk_lt X6.out)).trans X6.out)
                have Y7 := Aside0.mk (blk_new w6 (.cells #[.int .i64 0, .string ⟨#[]⟩] 45))
                go_upto_region 20 with fail
                generalize w6.alloc (.cells #[.int .i64 0, .string ⟨#[]⟩] 45) = w7 at B7 X7 Y7 ⊢
                generalize w6.heap.size = g7 at Y7 ⊢
                clear B6 B5 X5 X6 P5
                have x0 := (blk_cell X7.out 0).trans (Eq.refl (some (Value.int .i64 0)))
                have x1 := (blk_cell X7.out 1).trans (Eq.refl (some (Value.string ⟨#[]⟩)))
                have y0 := (blk_cell Y7.out 0).trans (Eq.refl (some (Value.int .i64 0)))
                have y1 := (blk_cell Y7.out 1).trans (Eq.refl (some (Value.string ⟨#[]⟩)))
                have S7 := Aside0.mk (S1.out.below B7.out)
                go_wp2_with fail
                go_meet
                case rel => exact ⟨R, _, _, _, S7.out, HW.out⟩
              · obtain ⟨k, hke⟩ : ∃ k : Nat, s.k = k := ⟨s.k.toNat, by omega⟩
                have hks : (k : Int) ≤ R.sealed := by omega
                have HD := Aside0.mk (done_yes S1.out.j HW.out k hks)
                have HOk := Aside0.mk (doneJ_ok HW.out k hks)
                have HRJ := Aside0.mk (doneR_jr R k)
                have HD2 : Aside0 (∀ w', RIs W.heap.size w' rb v2 us R → Calls Try.prog 15 #[ptr rb, .int .i64 (k : Int)] w' (RPost W.heap.size rb v2 w' (.tuple #[.agg #[.int .i64 0, .string (headJ (doneJ R.jr k))], .int .i64 0]) (us.drop k) (doneR R k))) := ⟨fun w' hR => rdone_yes hR HW.out k hks⟩
                unfold ptr at HD HD2
                rw [hke] at P0 q1
                generalize headJ (doneJ R.jr k) = hd at HD HD2
                have qn : (hd.toList == hd.toList) = true := by simp
                clear k0 k2 hk hks
                go_wp2_with fail
                refine HD.out.mono ?_
                rintro e w4 ⟨v4, rfl, hj, hf, hp⟩
                have P4 := Aside0.mk ((hf.block _ (blk_lt P0.out) NG.out.1).trans P0.out)
                have S4 := Aside0.mk (S1.out.left hj hf hp)
                clear hj hf hp HD
                have S5 := Aside0.mk (S4.out.below (below_alloc (Below.refl w4.heap.size w4) (.cells #[.int .i64 0, .string hd] 42)))
                have P5 := Aside0.mk (((below_alloc (Below.refl w4.heap.size w4) (.cells #[.int .i64 0, .string hd] 42)).block _ (blk_lt P4.out)).trans P4.out)
                have X5 := Aside0.mk (blk_new w4 (.cells #[.int .i64 0, .string hd] 42))
                have N5 : Aside0 (¬ fp rb v2 w4.heap.size) := ⟨fun hf => Nat.lt_irrefl _ (S4.out.r.lt hf)⟩
                go_upto_region 19 with fail
                generalize w4.alloc (.cells #[.int .i64 0, .string hd] 42) = w5 at S5 P5 X5 ⊢
                generalize w4.heap.size = g5 at X5 N5 ⊢
                clear S4 P4 q0 q1 q2
                have q1 := (blk_cell P5.out 1).trans (Eq.refl (some (Value.int .i64 (k : Int))))
                go_wp2_with fail
                refine (HD2.out _ S5.out.r).mono ?_
                rintro e w6 ⟨v6, rfl, hr, hf, hp⟩
                have X6 := Aside0.mk ((hf.block _ (blk_lt X5.out) N5.out).trans X5.out)
                have S6 := Aside0.mk (S5.out.right hr hf hp (fun u hu => .inl (List.mem_of_mem_drop hu)))
                clear hr hf hp q1
                have S7 := Aside0.mk (S6.out.below (below_alloc (Below.refl w6.heap.size w6) (.cells #[.int .i64 0, .string hd] 45)))
                have X7 := Aside0.mk (((below_alloc (Below.refl w6.heap.size w6) (.cells #[.int .i64 0, .string hd] 45)).block _ (blk_lt X6.out)).trans X6.out)
                have Y7 := Aside0.mk (blk_new w6 (.cells #[.int .i64 0, .string hd] 45))
                go_upto_region 20 with fail
                generalize w6.alloc (.cells #[.int .i64 0, .string hd] 45) = w7 at S7 X7 Y7 ⊢
                generalize w6.heap.size = g7 at Y7 ⊢
                clear S6 S5 X5 X6 P5
                have x0 := (blk_cell X7.out 0).trans (Eq.refl (some (Value.int .i64 0)))
                have x1 := (blk_cell X7.out 1).trans (Eq.refl (some (Value.string hd)))
                have y0 := (blk_cell Y7.out 0).trans (Eq.refl (some (Value.int .i64 0)))
                have y1 := (blk_cell Y7.out 1).trans (Eq.refl (some (Value.string hd)))
                go_wp2_with fail
                go_meet
                case rel => exact ⟨doneR R k, _, _, _, HRJ.out ▸ S7.out, HRJ.out ▸ HOk.out⟩
            · have k2b : (s.kind == 2) = false := by simp; omega
              by_cases k3 : s.kind = 3
              · have k3b : (s.kind == 3) = true := by simp [k3]
                have HD := Aside0.mk (seal_calls S1.out.j HW.out)
                have HOk := Aside0.mk (sealJ_ok HW.out)
                have HRJ := Aside0.mk (sealR_jr R)
                have HD2 : Aside0 (∀ w', RIs W.heap.size w' rb v2 us R → Calls Try.prog 17 #[ptr rb] w' (RPost W.heap.size rb v2 w' (.agg #[.int .i64 0, .string (headJ (sealJ R.jr))]) us (sealR R))) := ⟨fun w' hR => rseal_calls hR HW.out⟩
                unfold ptr at HD HD2
                generalize headJ (sealJ R.jr) = hd at HD HD2
                have qn : (hd.toList == hd.toList) = true := by simp
                clear k0 k2 k3
                go_wp2_with fail
                refine HD.out.mono ?_
                rintro e w4 ⟨v4, rfl, hj, hf, hp⟩
                have S4 := Aside0.mk (S1.out.left hj hf hp)
                clear hj hf hp HD
                have S5 := Aside0.mk (S4.out.below (below_alloc (Below.refl w4.heap.size w4) (.cells #[.int .i64 0, .string hd] 42)))
                have X5 := Aside0.mk (blk_new w4 (.cells #[.int .i64 0, .string hd] 42))
                have N5 : Aside0 (¬ fp rb v2 w4.heap.size) := ⟨fun hf => Nat.lt_irrefl _ (S4.out.r.lt hf)⟩
                go_upto_region 24 with fail
                generalize w4.alloc (.cells #[.int .i64 0, .string hd] 42) = w5 at S5 X5 ⊢
                generalize w4.heap.size = g5 at X5 N5 ⊢
                clear S4 q0 q1 q2
                go_wp2_with fail
                refine (HD2.out _ S5.out.r).mono ?_
                rintro e w6 ⟨v6, rfl, hr, hf, hp⟩
                have X6 := Aside0.mk ((hf.block _ (blk_lt X5.out) N5.out).trans X5.out)
                have S6 := Aside0.mk (S5.out.right hr hf hp (fun u hu => .inl hu))
                clear hr hf hp
                have S7 := Aside0.mk (S6.out.below (below_alloc (Below.refl w6.heap.size w6) (.cells #[.int .i64 0, .string hd] 45)))
                have X7 := Aside0.mk (((below_alloc (Below.refl w6.heap.size w6) (.cells #[.int .i64 0, .string hd] 45)).block _ (blk_lt X6.out)).trans X6.out)
                have Y7 := Aside0.mk (blk_new w6 (.cells #[.int .i64 0, .string hd] 45))
                go_upto_region 25 with fail
                generalize w6.alloc (.cells #[.int .i64 0, .string hd] 45) = w7 at S7 X7 Y7 ⊢
                generalize w6.heap.size = g7 at Y7 ⊢
                clear S6 S5 X5 X6
                have x0 := (blk_cell X7.out 0).trans (Eq.refl (some (Value.int .i64 0)))
                have x1 := (blk_cell X7.out 1).trans (Eq.refl (some (Value.string hd)))
                have y0 := (blk_cell Y7.out 0).trans (Eq.refl (some (Value.int .i64 0)))
                have y1 := (blk_cell Y7.out 1).trans (Eq.refl (some (Value.string hd)))
                go_wp2_with fail
                go_meet
                case rel => exact ⟨sealR R, _, _, _, HRJ.out ▸ S7.out, HRJ.out ▸ HOk.out⟩
              · have k3b : (s.kind == 3) = false := by simp; omega
                clear k0 k2 k3
                go_wp2_with fail
                go_meet
                case rel => exact ⟨R, _, _, _, S1.out, HW.out⟩
        case rest =>
          clear q0 q1 q2 P0 S1 HCh HGs NG HW
          obtain ⟨R2, v', v2', us', hS, hW2⟩ := hcut
          obtain ⟨A8, c8, rfl⟩ := hS.r.slice
          have S2 := Aside0.mk hS
          have W2 := Aside0.mk hW2
          have hsml := hW2.sml
          have hf1 : 1 ≤ R2.first := hW2.f1
          have hfn : R2.first + (R2.jr.sizes.length : Int) ≤ 1099511628076 := hW2.fn
          rw [R2.len] at hsml hfn
          have HCt : Aside0 (∀ w', Below wc.heap.size wc w' → Calls Try.prog 18 #[ptr jb] w' fun e w'' => e = .returned (.tuple #[.int .i64 (R2.l.length : Int), .int .i64 R2.sealed]) ∧ Below w'.heap.size w' w'') := ⟨fun w' hb => by have := count_calls (S2.out.below hb).j; rw [R2.len] at this; exact this⟩
          have HFr : Aside0 (∀ w', Below wc.heap.size wc w' → Calls Try.prog 21 #[ptr jb] w' fun e w'' => e = .returned (.int .i64 (R2.places - (R2.jr.sizes.sum : Nat))) ∧ Below w'.heap.size w' w'') := ⟨fun w' hb => free_calls (S2.out.below hb).j W2.out⟩
          have HFr2 : Aside0 (∀ w', Below wc.heap.size wc w' → Calls Try.prog 22 #[ptr rb] w' fun e w'' => e = .returned (.int .i64 (R2.places - (R2.jr.sizes.sum : Nat))) ∧ Below w'.heap.size w' w'') := ⟨fun w' hb => rfree_calls (S2.out.below hb).r W2.out⟩
          have HNx : Aside0 (∀ w', Below wc.heap.size wc w' → Calls Try.prog 23 #[ptr jb] w' fun e w'' => e = .returned (.int .i64 (R2.first + (R2.l.length : Int))) ∧ Below w'.heap.size w' w'') := ⟨fun w' hb => by have := next_calls (S2.out.below hb).j (by show 0 ≤ R2.first; omega) (by show R2.first ≤ _; omega) (by rw [R2.len]; omega); rw [R2.len] at this; exact this⟩
          have HNx2 : Aside0 (∀ w', Below wc.heap.size wc w' → Calls Try.prog 24 #[ptr rb] w' fun e w'' => e = .returned (.int .i64 (R2.first + (R2.l.length : Int))) ∧ Below w'.heap.size w' w'') := ⟨fun w' hb => rnext_calls (S2.out.below hb).r (by omega) (by omega) (by omega)⟩
          have HHd : Aside0 (∀ w', Below wc.heap.size wc w' → Calls Try.prog 19 #[ptr jb] w' fun e w'' => e = .returned (.string (headJ R2.jr)) ∧ Below w'.heap.size w' w'') := ⟨fun w' hb => header_calls (S2.out.below hb).j W2.out.hw⟩
          have HHd2 : Aside0 (∀ w', Below wc.heap.size wc w' → Calls Try.prog 20 #[ptr rb] w' fun e w'' => e = .returned (.string (headJ R2.jr)) ∧ Below w'.heap.size w' w'') := ⟨fun w' hb => rheader_calls (S2.out.below hb).r W2.out.hw⟩
          have HCl : Aside0 (∀ w', Below wc.heap.size wc w' → w'.cell? ⟨rb, 4, none⟩ = some (.slice A8 R2.l.length c8) ∧ w'.cell? ⟨rb, 3, none⟩ = some (.int .i64 R2.sealed)) := ⟨fun w' hb => ⟨(S2.out.below hb).r.c4, (S2.out.below hb).r.c3⟩⟩
          unfold ptr at HCt HFr HFr2 HNx HNx2 HHd HHd2
          generalize headJ R2.jr = hd at HHd HHd2
          generalize R2.places - ((R2.jr.sizes.sum : Nat) : Int) = fr at HFr HFr2
          generalize R2.first + (R2.l.length : Int) = nx at HNx HNx2
          generalize R2.sealed = sl at HCt HCl
          have qn : (hd.toList == hd.toList) = true := by simp
          clear hS hW2 hsml hf1 hfn
          go_wp2_with fail
          refine (HCt.out _ (Below.refl _ _)).mono ?_
          rintro e w4 ⟨rfl, hB⟩
          have B4 := Aside0.mk hB
          clear hB
          go_wp2_with fail
          refine (HHd.out _ B4.out).mono ?_
          rintro e w5 ⟨rfl, hB⟩
          have B5 := Aside0.mk (B4.out.trans (hB.mono B4.out.size))
          clear hB
          go_wp2_with fail
          refine (HHd2.out _ B5.out).mono ?_
          rintro e w6 ⟨rfl, hB⟩
          have B6 := Aside0.mk (B5.out.trans (hB.mono B5.out.size))
          clear hB
          go_wp2_with fail
          refine (HFr.out _ B6.out).mono ?_
          rintro e w7 ⟨rfl, hB⟩
          have B7 := Aside0.mk (B6.out.trans (hB.mono B6.out.size))
          clear hB
          go_wp2_with fail
          refine (HFr2.out _ B7.out).mono ?_
          rintro e w8 ⟨rfl, hB⟩
          have B8 := Aside0.mk (B7.out.trans (hB.mono B7.out.size))
          clear hB
          obtain ⟨c4, c3⟩ := HCl.out _ B8.out
          go_wp2_with fail
          refine (HNx.out _ B8.out).mono ?_
          rintro e w9 ⟨rfl, hB⟩
          have B9 := Aside0.mk (B8.out.trans (hB.mono B8.out.size))
          clear hB
          go_wp2_with fail
          refine (HNx2.out _ B9.out).mono ?_
          rintro e w10 ⟨rfl, hB⟩
          have B10 := Aside0.mk (B9.out.trans (hB.mono B9.out.size))
          clear hB
          go_wp2_with fail
          go_roundw
          case rel => exact ⟨i + 1, R2, _, _, _, by omega, by simp, ⟨S2.out.below B10.out⟩, W2⟩
          case measure => simp [intOf]; omega
      · obtain rfl : i = l.length := by omega
        have BF := Aside0.mk HS.out.b
        clear HS HW
        go_wp2_with fail
        refine (speaks_calls _).mono ?_
        rintro e w6 ⟨rfl, hb6⟩
        have B6 := Aside0.mk (BF.out.trans (hb6.mono BF.out.size))
        clear hb6
        go_wp2_with fail
        go_ret
        exact ⟨rfl, B6.out⟩
theorem JournalSteps (W : World) (n : Int) (hw : (Lit.int .i64 n).wf = true) (A : Option Addr) (m cp : Nat) (l : List Stp) (h : (Kd.slice 33 stpK).K W l [.slice A m cp]) (hg : ∀ s ∈ l, goodS s) :
    Calls Try.prog 3 #[.int .i64 n, .slice A m cp] W fun e W' => e = .returned (.bool true) ∧ Below W.heap.size W W' := by
  obtain ⟨rfl, hs⟩ := stps_of h
  exact journalSteps W n A l cp hs hg
end Go.Proofs.Ytlmnfnkjbgnklaa.Core
