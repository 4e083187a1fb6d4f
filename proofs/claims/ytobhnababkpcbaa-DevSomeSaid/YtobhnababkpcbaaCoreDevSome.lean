/- The walk of the law DevSome. -/
import Derived.Test.YtobhnababkpcbaaDevSome
import Derived.Test.YtobhnababkpcbaaDevAll
set_option linter.unusedVariables false
set_option linter.unusedSimpArgs false
namespace Go.Proofs.Ytobhnababkpcbaa.Core
open Go.RowKit Go.Proofs.YtobhnababkpcbaaW.PrintWords Go.Proofs.YtobhnababkpcbaaW.PrintLast Go.Proofs.YtobhnababkpcbaaW.PrintMore Go.Proofs.Ytobhnababkpcbaa.Maps Go.Proofs.Ytobhnababkpcbaa.DevS Go.Proofs.Ytobhnababkpcbaa.Given Go.Proofs.Ytobhnababkpcbaa.Dev Go.Proofs.Ytobhnababkpcbaa.Open
theorem infoS : (Try.prog.info? 30).map (fun i => (i.zero, i.size, i.bytes)) = some (some (.agg #[.int .i64 0, .int .i64 0, .int .i64 0, .int .i64 0, .int .i64 0, .int .u8 0, .slice none 0 0]), 7, 72) := by kernel_rfl
/-- The row of steps that were done. -/
def Done (B : Nat) (w : World) (v : Value) (ds : List Laid) : Prop := w.ownsRow B 30 7 v ds.length (cellsOf ds)
theorem Done.apart {B db lb sb : Nat} {w : World} {v v1 : Value} {d : D} {ds : List Laid} (h : Done B w v ds) (hd : DevIs B w db lb sb v1 d) {k : Nat} (hk : fp db lb sb v1 k) : v.ownBlock ≠ some k := by
  intro e
  rcases h.2 with ⟨rfl, _⟩ | ⟨g, cap, cur, rfl, _, hg, _⟩
  · simp [Value.ownBlock] at e
  · have e2 : g = k := by simpa [Value.ownBlock] using e
    subst e2
    rcases hk with rfl | rfl | rfl | hk
    · have := hd.dev; rw [hg] at this; simp at this
    · obtain ⟨es, c, l, h1, _⟩ := hd.la; rw [hg] at h1; simp at h1
    · obtain ⟨es, c, l, h1, _⟩ := hd.se; rw [hg] at h1; simp at h1
    · rcases hd.row.2 with ⟨rfl, _⟩ | ⟨g', cap', cur', rfl, _, hg', _⟩
      · simp [Value.ownBlock] at hk
      · have e3 : g' = g := by simpa [Value.ownBlock] using hk
        subst e3
        rw [hg] at hg'
        simp at hg'
theorem Done.fr {B : Nat} {w w' : World} {v : Value} {ds : List Laid} {f : Nat → Prop} (h : Done B w v ds) (hf : Fr w w' f) (hn : ∀ k, f k → v.ownBlock ≠ some k) : Done B w' v ds := by
  refine ⟨h.1, ?_⟩
  rcases h.2 with hh | ⟨g, cap, cur, rfl, hb, hg, rest⟩
  · exact .inl hh
  · exact .inr ⟨g, cap, cur, rfl, hb, (hf.block g (Array.getElem?_eq_some_iff.1 hg).1 (fun hk => hn g hk rfl)).trans hg, rest⟩
theorem Done.below {B : Nat} {w w' : World} {v : Value} {ds : List Laid} (h : Done B w v ds) (hb : Below w.heap.size w w') : Done B w' v ds := pw_own_below h hb
/-- All that stands besides the device. -/
structure Sd (W w : World) (db : Nat) (d : D) (v : Value) (ds : List Laid) : Prop where
  dev : ∃ lb sb v1, DevIs W.heap.size w db lb sb v1 d
  done : Done W.heap.size w v ds
  bel : Below W.heap.size W w
theorem Sd.below {db : Nat} {W w w' : World} {d : D} {v : Value} {ds : List Laid} (h : Sd W w db d v ds) (hb : Below w.heap.size w w') : Sd W w' db d v ds := by
  obtain ⟨lb, sb, v1, hd⟩ := h.dev
  exact ⟨⟨lb, sb, v1, hd.below hb⟩, h.done.below hb, h.bel.trans (hb.mono h.bel.size)⟩
theorem Sd.op {db : Nat} {W w : World} {d d' : D} {e v : Value} {ds : List Laid} (h : Sd W w db d v ds) {R : Ending → World → Prop} {fn : Nat} {args : Array Value} (hc : ∀ l1 s1 v1, DevIs W.heap.size w db l1 s1 v1 d → Calls Try.prog fn args w (WritePost W.heap.size db l1 s1 v1 w d' e))
    (hR : ∀ w', Sd W w' db d' v ds → (∀ (g : Nat) (cs : Array Value), w.heap[g]? = some (Obj.cells cs 30 (0, 0)) → w'.heap[g]? = some (Obj.cells cs 30 (0, 0))) → R (.returned e) w') : Calls Try.prog fn args w R := by
  obtain ⟨l1, s1, v1, h1⟩ := h.dev
  refine (hc l1 s1 v1 h1).mono ?_
  rintro en w' ⟨sb', v', rfl, g1, g2, g3⟩
  exact hR w' ⟨⟨l1, sb', v', g1⟩, h.done.fr g2 (fun k hk => h.done.apart h1 hk), Fr.below h.bel g2 (fun k hk => h1.fp_ge hk) h.bel.size⟩ (fun g cs hg => (g2.block g (blk_lt hg) (fun hk => h1.step_apart hg hk)).trans hg)
theorem Sd.append {db : Nat} {W w w' : World} {d : D} {v v' : Value} {ds : List Laid} {x : Laid} (h : Sd W w db d v ds) (hg : w.grownBy w' v.ownBlock) (hr : w'.ownsRow W.heap.size 30 7 v' (ds.length + 1) (cellsOf ds ++ (sobj x.s x.A x.c).toList)) (hb : Below W.heap.size W w') : Sd W w' db d v' (ds ++ [x]) := by
  have hf : Fr w w' (fun k => v.ownBlock = some k) := ⟨hg.os, hg.tape, hg.output, hg.size, fun k hk hn => hg.block k hk (fun e => hn e.symm)⟩
  obtain ⟨l1, s1, v1, h1⟩ := h.dev
  refine ⟨⟨l1, s1, v1, h1.fr hf (fun k hk => h.done.apart h1 hk)⟩, ?_, hb⟩
  unfold Done
  have e1 : (ds ++ [x]).length = ds.length + 1 := by simp
  have e2 : cellsOf (ds ++ [x]) = cellsOf ds ++ (sobj x.s x.A x.c).toList := by unfold cellsOf; simp
  rw [e1, e2]
  exact hr
set_option maxHeartbeats 6400000 in
set_option maxRecDepth 100000 in
theorem devSome (W : World) (A : Option Addr) (l : List Step) (cp : Nat) (hl : Kd.C stepK W A l.length l) (hg : ∀ s ∈ l, goodStep s) (Ap : Option Addr) (picks : List Bool) (cpp : Nat) (hpk : Kd.C Kd.bool W Ap picks.length picks) (hpl : picks.length ≤ 140737488351232) (torn : Int) :
    Calls Try.prog 3 #[.slice A l.length cp, .slice Ap picks.length cpp, .int .i64 torn] W fun e W' => e = .returned (.bool true) ∧ Below W.heap.size W W' := by
  have hus := Try.underlying30
  have hup := Try.underlying24
  have HL := Aside0.mk hl
  have HG := Aside0.mk hg
  have HPP := Aside0.mk (And.intro hpk hpl)
  clear hl hg hpk hpl
  go_enter Try.func3, Try.ntmps3
  go_wp2_with fail
  refine (new_yes W.heap.size 6 W (Nat.le_refl _) (by omega) (by omega)).mono ?_
  rintro e w1 ⟨db, lb, sb, rfl, hD1, hBe1, _⟩
  have S0 : Aside0 (Sd W w1 db (dNew 6) (.slice none 0 0) []) := ⟨⟨⟨lb, sb, _, hD1⟩, own_nil _ _ _ _, hBe1⟩⟩
  clear hD1 hBe1
  unfold ptr
  obtain ⟨bad, hbad⟩ : ∃ b : Bool, b = (decide (l.length > 300) || (decide (torn < 0) || decide (torn > 1024))) := ⟨_, rfl⟩
  have HBad := Aside0.mk hbad
  clear hbad
  go_upto_region 2 with fail
  go_cut [44] (fun v44 wc => v44 = .bool bad ∧ wc = w1)
  case first =>
    by_cases h1 : l.length > 300
    · have b1 : decide (l.length > 300) = true := decide_eq_true h1
      go_wp2_with fail
      go_meet
      case rel => exact ⟨by rw [HBad.out, b1]; rfl, rfl⟩
    · have b1 : decide (l.length > 300) = false := decide_eq_false h1
      by_cases h2 : torn < 0
      · have b2 : decide (torn < 0) = true := decide_eq_true h2
        go_wp2_with fail
        go_meet
        case rel => exact ⟨by rw [HBad.out, b1, b2]; rfl, rfl⟩
      · have b2 : decide (torn < 0) = false := decide_eq_false h2
        by_cases h3 : torn > 1024
        · have b3 : decide (torn > 1024) = true := decide_eq_true h3
          go_wp2_with fail
          go_meet
          case rel => exact ⟨by rw [HBad.out, b1, b2, b3]; rfl, rfl⟩
        · have b3 : decide (torn > 1024) = false := decide_eq_false h3
          go_wp2_with fail
          go_meet
          case rel => exact ⟨by rw [HBad.out, b1, b2, b3]; simp; omega, rfl⟩
  case rest =>
    obtain ⟨rfl, rfl⟩ := hcut
    rcases Bool.eq_false_or_eq_true bad with hb | hb
    · rw [hb]
      go_wp2_with fail
      refine (speaks_calls _).mono ?_
      rintro e w5 ⟨rfl, hb5⟩
      have B5 := Aside0.mk (S0.out.bel.trans (hb5.mono S0.out.bel.size))
      clear hb5
      go_wp2_with fail
      go_ret
      exact ⟨rfl, B5.out⟩
    · rw [hb]
      rw [hb] at HBad
      have HN : Aside0 (l.length ≤ 300 ∧ 0 ≤ torn ∧ torn ≤ 1024) := ⟨by have := HBad.out; simp at this; omega⟩
      have hl3 := HN.out.1
      go_wp2_with fail
      go_loopw [9, 56] (fun v9 v56 wr => ∃ (i : Nat) (d : D) (ds : List Laid), i ≤ l.length ∧ v56 = .int .i64 (i : Int) ∧ Aside0 (Sd W wr db d v9 ds) ∧ Aside0 (d.n = 6 ∧ d.la = (fun _ => none) ∧ d.q = qOf ds ∧ ds.length ≤ i) ∧ Aside0 (∀ x ∈ ds, Kd.C Kd.bool W x.A x.s.picks.length x.s.picks ∧ x.s.picks.length ≤ x.c ∧ goodStep x.s)) (fun _ y _ => l.length - (intOf y).toNat)
      case atStart => exact ⟨0, dNew 6, [], by omega, rfl, S0, ⟨rfl, rfl, rfl, by simp⟩, ⟨by simp⟩⟩
      case round =>
        obtain ⟨i, d, ds, hi, rfl, HS, HI, HD⟩ := hrel
        by_cases hlt : i < l.length
        · have hql : d.q.length ≤ 1000000 := by rw [HI.out.2.2.1]; unfold qOf; rw [List.length_map]; have := HI.out.2.2.2; have := HN.out.1; omega
          obtain ⟨ad, A', c', rfl, hcell, hpk, hpc⟩ := step_at HL.out i hlt
          have hgs := HG.out _ (List.getElem_mem hlt)
          generalize l[i] = s at hcell hpk hpc hgs
          obtain ⟨e0, e1, e2, e3, e4, e5, e6⟩ := step_cells hcell HS.out.bel
          have HPK := Aside0.mk (And.intro hpk (And.intro hpc hgs))
          have P0 := Aside0.mk (blk_new wr (.cells (sobj s A' c') 30))
          have B0 := Aside0.mk (below_alloc (Below.refl wr.heap.size wr) (.cells (sobj s A' c') 30))
          unfold sobj at P0 B0
          clear hcell hpk hpc hgs
          go_upto_region 8 with fail
          generalize hW1 : wr.alloc (.cells #[.int .i64 s.kind, .int .i64 s.at_, .int .i64 s.many, .int .i64 s.odd, .int .i64 s.torn, .int .u8 s.c, .slice A' s.picks.length c'] 30) = W1 at P0 B0 ⊢
          clear hW1 e0 e1 e2 e3 e4 e5 e6
          have S1 := Aside0.mk (HS.out.below B0.out)
          generalize hg1 : wr.heap.size = g1 at P0 B0 ⊢
          have q0 := (blk_cell P0.out 0).trans (Eq.refl (some (Value.int .i64 s.kind)))
          have q1 := (blk_cell P0.out 1).trans (Eq.refl (some (Value.int .i64 s.at_)))
          have q2 := (blk_cell P0.out 2).trans (Eq.refl (some (Value.int .i64 s.many)))
          have q3 := (blk_cell P0.out 3).trans (Eq.refl (some (Value.int .i64 s.odd)))
          have q4 := (blk_cell P0.out 4).trans (Eq.refl (some (Value.int .i64 s.torn)))
          have q5 := (blk_cell P0.out 5).trans (Eq.refl (some (Value.int .u8 s.c)))
          have q6 := (blk_cell P0.out 6).trans (Eq.refl (some (Value.slice A' s.picks.length c')))
          clear B0 hg1 HS
          have hds := dataS_size s.many s.odd s.c
          have HDt : Aside0 (Calls Try.prog 11 #[.agg #[.int .i64 s.kind, .int .i64 s.at_, .int .i64 s.many, .int .i64 s.odd, .int .i64 s.torn, .int .u8 s.c, .slice A' s.picks.length c']] W1.drew fun e w' => e = .returned (.string (dataS s.many s.odd s.c)) ∧ Below W1.drew.heap.size W1.drew w') := ⟨data_calls s.kind s.at_ s.many s.odd s.torn s.c A' c' s.picks W1.drew (Kd.C_below HPK.out.1 (below_drew1 S1.out.bel)) HPK.out.2.1⟩
          obtain ⟨dta, hdta⟩ : ∃ x, x = dataS s.many s.odd s.c := ⟨_, rfl⟩
          rw [← hdta] at hds HDt
          have HDta := Aside0.mk hdta
          clear hdta
          have HW : Aside0 (∀ w3 : World, Below W1.heap.size W1 w3 → Calls Try.prog 10 #[.pointer (some ⟨db, 0, none⟩), .int .i64 s.at_, .string dta] w3 (fun e w4 => e = .returned (.int .i64 (dWrite d s.at_ dta).2) ∧ Sd W w4 db (dWrite d s.at_ dta).1 u9 ds ∧ w4.heap[g1]? = some (.cells #[.int .i64 s.kind, .int .i64 s.at_, .int .i64 s.many, .int .i64 s.odd, .int .i64 s.torn, .int .u8 s.c, .slice A' s.picks.length c'] 30 (0, 0)))) := ⟨fun w3 hb3 => by
            have hS3 := S1.out.below hb3
            have hP3 := blk_below P0.out hb3
            exact hS3.op (fun l1 s1 v1 hD => write_calls hD hS3.bel.size (by omega) hql) (fun w4 hS4 hk4 => ⟨rfl, hS4, hk4 _ _ hP3⟩)⟩
          go_cut [66] (fun v66 wc => v66 = .bool ((dWrite d s.at_ dta).2 == 0) ∧ Sd W wc db (dWrite d s.at_ dta).1 u9 ds ∧ wc.heap[g1]? = some (.cells #[.int .i64 s.kind, .int .i64 s.at_, .int .i64 s.many, .int .i64 s.odd, .int .i64 s.torn, .int .u8 s.c, .slice A' s.picks.length c'] 30 (0, 0)))
          case first =>
            have P1d : Aside0 (W1.drew.heap[g1]? = some (.cells #[.int .i64 s.kind, .int .i64 s.at_, .int .i64 s.many, .int .i64 s.odd, .int .i64 s.torn, .int .u8 s.c, .slice A' s.picks.length c'] 30 (0, 0))) := ⟨P0.out⟩
            go_region_with (first
              | (go_at_call 11; refine HDt.out.mono ?_; rintro e w3 ⟨rfl, hb3⟩; have qq1 := (blk_cell (blk_below P1d.out hb3) 1).trans (Eq.refl (some (Value.int .i64 s.at_))); have T3 := Aside0.mk (below_step (below_drew1 (Below.refl _ _)) hb3); clear hb3)
              | (go_at_call 10; refine (HW.out _ T3.out).mono ?_; rintro e w4 ⟨rfl, hs4, hp4⟩; have T4 := Aside0.mk (And.intro hs4 hp4); clear hs4 hp4))
            all_goals
              go_wp2_with fail
              go_meet
              case rel => exact ⟨rfl, T4.out⟩
          case rest =>
            obtain ⟨rfl, hS5, hP5⟩ := hcut
            have S5 := Aside0.mk hS5
            have P5 := Aside0.mk hP5
            clear q0 q1 q2 q3 q4 q5 q6 P0 S1 HW hS5 hP5 HDt
            by_cases hok : (dWrite d s.at_ dta).2 = 0
            · have hokb : ((dWrite d s.at_ dta).2 == 0) = true := by simp [hok]
              obtain ⟨_, hdw, _⟩ : (dWrite d s.at_ dta).2 = 0 ∧ (dWrite d s.at_ dta).1 = { d with se := layF d.se s.at_ dta (dta.size / 128), q := d.q ++ [(s.at_, dta)] } ∧ placeOk d.n s.at_ dta := by
                rcases write_cases d s.at_ dta with h | h
                · exact h
                · exact absurd hok h.1
              rw [hokb]
              clear hok hokb
              have hml : (ds.length + 1) * 72 ≤ 140737488355328 := by have := HI.out.2.2.2; have := HN.out.1; omega
              have q0 := (blk_cell P5.out 0).trans (Eq.refl (some (Value.int .i64 s.kind)))
              have q1 := (blk_cell P5.out 1).trans (Eq.refl (some (Value.int .i64 s.at_)))
              have q2 := (blk_cell P5.out 2).trans (Eq.refl (some (Value.int .i64 s.many)))
              have q3 := (blk_cell P5.out 3).trans (Eq.refl (some (Value.int .i64 s.odd)))
              have q4 := (blk_cell P5.out 4).trans (Eq.refl (some (Value.int .i64 s.torn)))
              have q5 := (blk_cell P5.out 5).trans (Eq.refl (some (Value.int .u8 s.c)))
              have q6 := (blk_cell P5.out 6).trans (Eq.refl (some (Value.slice A' s.picks.length c')))
              go_wp2_with (at_builtin; refine print_append_cells W.heap.size rfl (.tmp 67) (.tmp 69) 22 30 (.agg #[.int .i64 0, .int .i64 0, .int .i64 0, .int .i64 0, .int .i64 0, .int .u8 0, .slice none 0 0]) 7 72 rfl Try.underlying22 infoS rfl (by decide) (by decide) _ _ _ (sobj s A' c').toList rfl rfl rfl (by intro u hu; unfold sobj at hu; simp at hu; rcases hu with rfl | rfl | rfl | rfl | rfl | rfl | rfl <;> rfl) S5.out.done S5.out.bel S5.out.bel.size hml ?_; intro v6 w6 hr6 hb6 hg6 _)
              have S6 := Aside0.mk (S5.out.append (x := ⟨s, A', c'⟩) hg6 hr6 hb6)
              have HD2 : Aside0 (∀ x ∈ ds ++ [(⟨s, A', c'⟩ : Laid)], Kd.C Kd.bool W x.A x.s.picks.length x.s.picks ∧ x.s.picks.length ≤ x.c ∧ goodStep x.s) := ⟨fun x hx => by
                rcases List.mem_append.1 hx with hx | hx
                · exact HD.out x hx
                · obtain rfl := List.mem_singleton.1 hx
                  exact HPK.out⟩
              have HI2 : Aside0 ((dWrite d s.at_ dta).1.n = 6 ∧ (dWrite d s.at_ dta).1.la = (fun _ => none) ∧ (dWrite d s.at_ dta).1.q = qOf (ds ++ [(⟨s, A', c'⟩ : Laid)]) ∧ (ds ++ [(⟨s, A', c'⟩ : Laid)]).length ≤ i + 1) := ⟨by
                rw [hdw]
                refine ⟨HI.out.1, HI.out.2.1, ?_, by have := HI.out.2.2.2; simp; omega⟩
                show d.q ++ [(s.at_, dta)] = _
                rw [HI.out.2.2.1, HDta.out]
                unfold qOf
                simp⟩
              clear q0 q1 q2 q3 q4 q5 q6 hr6 hb6 hg6 S5 P5 HI HD hdw
              go_wp2_with fail
              go_roundw
              case rel => exact ⟨i + 1, _, _, by omega, by simp, S6, HI2, HD2⟩
              case measure => simp [intOf]; omega
            · have hokb : ((dWrite d s.at_ dta).2 == 0) = false := by simp [hok]
              have hd' : (dWrite d s.at_ dta).1 = d := by
                rcases write_cases d s.at_ dta with h | h
                · exact absurd h.1 hok
                · exact h.2
              rw [hokb]
              rw [hd'] at S5
              clear hok hokb hd'
              go_wp2_with fail
              go_roundw
              case rel => exact ⟨i + 1, d, ds, by omega, by simp, S5, ⟨HI.out.1, HI.out.2.1, HI.out.2.2.1, by have := HI.out.2.2.2; omega⟩, HD⟩
              case measure => simp [intOf]; omega
        · obtain rfl : i = l.length := by omega
          have hql : d.q.length ≤ 1000000 := by rw [HI.out.2.2.1]; unfold qOf; rw [List.length_map]; have := HI.out.2.2.2; have := HN.out.1; omega
          have HCr : Aside0 (Calls Try.prog 12 #[.pointer (some ⟨db, 0, none⟩), .slice Ap picks.length cpp, .int .i64 torn] wr (fun e w9 => e = .returned (.int .i64 (dCrash d picks torn).2) ∧ Sd W w9 db (dCrash d picks torn).1 u9 ds)) := ⟨HS.out.op (fun l1 s1 v1 hD => by
            obtain ⟨pk1, pk2⟩ := picks_of HPP.out.1
            exact crash_calls hD HS.out.bel.size hql (picks_of (Kd.C_below HPP.out.1 HS.out.bel)).1 (by have := HPP.out.2; omega) (fun ad hA hne => ⟨fun hfp => by have h1 := hD.fp_ge hfp; have h2 := pk2 ad hA hne; omega, by have h2 := pk2 ad hA hne; have h3 := HS.out.bel.size; omega⟩)) (fun w9 hS9 _ => ⟨rfl, hS9⟩)⟩
          have HE : Aside0 ((dCrash d picks torn).2 = 0 ∧ (dCrash d picks torn).1 = ⟨6, crashF picks torn.toNat 0 true (fun _ => none) (qOf ds), crashF picks torn.toNat 0 true (fun _ => none) (qOf ds), []⟩) := ⟨by
            obtain ⟨h1, h2, h3, _⟩ := HI.out
            have hn := HN.out
            unfold dCrash
            rw [if_neg (by omega), if_neg (by omega), h2, h3]
            exact ⟨rfl, by rw [← h1]⟩⟩
          rw [HE.out.1, HE.out.2] at HCr
          have HAT : Aside0 (∀ x ∈ ds, 0 ≤ x.s.at_ ∧ x.s.at_ ≤ 6) := ⟨fun x hx => by
            obtain ⟨l1, s1, v1, hD⟩ := HS.out.dev
            have hm : (x.s.at_, dataS x.s.many x.s.odd x.s.c) ∈ d.q := by rw [HI.out.2.2.1]; exact List.mem_map.2 ⟨x, hx, rfl⟩
            have hp := (hD.wf.2 _ hm).2
            have h6 := HI.out.1
            have h1 : 0 ≤ x.s.at_ := hp.1
            have h2 : x.s.at_ ≤ (d.n : Int) - ((dataS x.s.many x.s.odd x.s.c).size / 128 : Nat) := hp.2.2
            omega⟩
          clear HE hql
          obtain ⟨Ad, cd, hu9⟩ := own_slice HS.out.done
          subst hu9
          go_wp2_with fail
          refine HCr.out.mono ?_
          rintro e w9 ⟨rfl, hs9⟩
          have S9 := Aside0.mk hs9
          clear hs9 HCr HS
          go_wp2_with fail
          have hdl : ds.length ≤ 300 := by have := HI.out.2.2.2; omega
          obtain ⟨CF, hCF⟩ : ∃ f : F, f = crashF picks torn.toNat 0 true (fun _ => none) (qOf ds) := ⟨_, rfl⟩
          rw [← hCF] at S9
          have HCF := Aside0.mk (fun (k : Int) (a : ByteArray) (h : a = DevS.look CF k) => some_hits picks torn.toNat (qOf ds) k a (by rw [h, hCF]))
          clear hCF
          go_loopw [12] (fun v12 wq => ∃ j : Nat, j ≤ 6 ∧ v12 = .int .i64 (j : Int) ∧ Aside0 (Sd W wq db ⟨6, CF, CF, []⟩ (.slice Ad ds.length cd) ds)) (fun y _ => 6 - (intOf y).toNat)
          case atStart => exact ⟨0, by omega, rfl, S9⟩
          case round =>
            clear S9
            obtain ⟨j, hj, rfl, HS⟩ := hrel
            by_cases hj6 : j < 6
            · obtain ⟨str, hstr⟩ : ∃ x, x = DevS.look CF j := ⟨_, rfl⟩
              have HH := Aside0.mk (HCF.out j str hstr)
              have hin : inD ⟨6, CF, CF, []⟩ (j : Int) := ⟨by omega, by show (j : Int) < (6 : Int); omega⟩
              have hrd : dRead ⟨6, CF, CF, []⟩ (j : Int) = (str, 0) := by unfold dRead; rw [if_pos hin, hstr]
              have hld : dLasts ⟨6, CF, CF, []⟩ (j : Int) = (str, 0) := by unfold dLasts; rw [if_pos hin, hstr]
              clear hstr hin
              have HR : Aside0 (Calls Try.prog 13 #[.pointer (some ⟨db, 0, none⟩), .int .i64 (j : Int)] wr (fun e w' => e = .returned (.tuple #[.string str, .int .i64 0]) ∧ Below wr.heap.size wr w')) := ⟨by
                obtain ⟨l1, s1, v1, h1⟩ := HS.out.dev
                have := read_calls h1 j
                rwa [hrd] at this⟩
              have HLs : Aside0 (∀ w3 : World, Below wr.heap.size wr w3 → Calls Try.prog 14 #[.pointer (some ⟨db, 0, none⟩), .int .i64 (j : Int)] w3 (fun e w' => e = .returned (.tuple #[.string str, .int .i64 0]) ∧ Below w3.heap.size w3 w')) := ⟨fun w3 h3 => by
                obtain ⟨l1, s1, v1, h1⟩ := HS.out.dev
                have := lasts_calls (h1.below h3) j
                rwa [hld] at this⟩
              clear hrd hld
              go_wp2_with fail
              refine HR.out.mono ?_
              rintro e w3 ⟨rfl, hb3⟩
              have T3 := Aside0.mk hb3
              clear hb3
              go_wp2_with fail
              refine (HLs.out _ T3.out).mono ?_
              rintro e w4 ⟨rfl, hb4⟩
              have T4 := Aside0.mk (T3.out.trans (hb4.mono T3.out.size))
              clear hb4
              go_wp2_with fail
              refine (block_any 0 _).mono ?_
              rintro e w5 ⟨rfl, hb5⟩
              have T5 := Aside0.mk (HS.out.below (T4.out.trans (hb5.mono T4.out.size)))
              clear hb5 HR HLs T3 T4
              generalize blockB 0 = z0 at HH ⊢
              go_wp2_with fail
              go_loopw [17, 109] (fun v17 v109 wq => ∃ m : Nat, m ≤ ds.length ∧ v17 = .bool ((str.toList == z0.toList) || ((qOf ds).take m).any (hits j str)) ∧ v109 = .int .i64 (m : Int) ∧ Aside0 (Sd W wq db ⟨6, CF, CF, []⟩ (.slice Ad ds.length cd) ds)) (fun _ y _ => ds.length - (intOf y).toNat)
              case atStart => exact ⟨0, by omega, by simp, rfl, T5⟩
              case round =>
                clear T5
                obtain ⟨m, hm, rfl, rfl, HT⟩ := hrel
                by_cases hmd : m < ds.length
                · obtain ⟨g, hg⟩ : ∃ g, Ad = some ⟨g, 0, none⟩ := by
                    rcases HT.out.done.2 with ⟨h1, h2⟩ | ⟨g, cap, cur, h1, _⟩
                    · simp at h1
                      omega
                    · simp at h1
                      exact ⟨g, h1.1⟩
                  subst hg
                  have hca := fun (jj : Nat) (h : jj < 7) => (World.ownsRow.cellAt HT.out.done (m * 7 + jj) (by omega)).trans (cellsOf_at ds m jj hmd h)
                  have e0 := hca 0 (by omega)
                  have e1 := hca 1 (by omega)
                  have e2 := hca 2 (by omega)
                  have e3 := hca 3 (by omega)
                  have e4 := hca 4 (by omega)
                  have e5 := hca 5 (by omega)
                  have e6 := hca 6 (by omega)
                  have hxx := HD.out _ (List.getElem_mem hmd)
                  have hat := HAT.out _ (List.getElem_mem hmd)
                  have hq : (qOf ds)[m]? = some ((ds[m]).s.at_, dataS (ds[m]).s.many (ds[m]).s.odd (ds[m]).s.c) := by unfold qOf; rw [List.getElem?_map, List.getElem?_eq_getElem hmd]; rfl
                  have htk : (qOf ds).take (m + 1) = (qOf ds).take m ++ [((ds[m]).s.at_, dataS (ds[m]).s.many (ds[m]).s.odd (ds[m]).s.c)] := by rw [List.take_add_one, hq]; rfl
                  clear hca hq
                  generalize ds[m] = x at e0 e1 e2 e3 e4 e5 e6 hxx hat htk
                  obtain ⟨s, A', c'⟩ := x
                  replace e0 : wr.cell? ⟨g, m * 7, none⟩ = some (.int .i64 s.kind) := e0
                  replace e1 : wr.cell? ⟨g, m * 7 + 1, none⟩ = some (.int .i64 s.at_) := e1
                  replace e2 : wr.cell? ⟨g, m * 7 + 2, none⟩ = some (.int .i64 s.many) := e2
                  replace e3 : wr.cell? ⟨g, m * 7 + 3, none⟩ = some (.int .i64 s.odd) := e3
                  replace e4 : wr.cell? ⟨g, m * 7 + 4, none⟩ = some (.int .i64 s.torn) := e4
                  replace e5 : wr.cell? ⟨g, m * 7 + 5, none⟩ = some (.int .u8 s.c) := e5
                  replace e6 : wr.cell? ⟨g, m * 7 + 6, none⟩ = some (.slice A' s.picks.length c') := e6
                  have hxx1 : Kd.C Kd.bool W A' s.picks.length s.picks := hxx.1
                  have hxx2 : s.picks.length ≤ c' := hxx.2.1
                  have hat1 : 0 ≤ s.at_ ∧ s.at_ ≤ 6 := hat
                  have P0 := Aside0.mk (blk_new wr (.cells (sobj s A' c') 30))
                  have B0 := Aside0.mk (below_alloc (Below.refl wr.heap.size wr) (.cells (sobj s A' c') 30))
                  unfold sobj at P0 B0
                  have hds := dataS_size s.many s.odd s.c
                  have HDt : Aside0 (∀ w3 : World, Below W.heap.size W w3 → Calls Try.prog 11 #[.agg #[.int .i64 s.kind, .int .i64 s.at_, .int .i64 s.many, .int .i64 s.odd, .int .i64 s.torn, .int .u8 s.c, .slice A' s.picks.length c']] w3 fun e w' => e = .returned (.string (dataS s.many s.odd s.c)) ∧ Below w3.heap.size w3 w') := ⟨fun w3 hb3 => data_calls s.kind s.at_ s.many s.odd s.torn s.c A' c' s.picks w3 (Kd.C_below hxx1 hb3) hxx2⟩
                  have HTK := Aside0.mk htk
                  clear hxx hat htk hxx1 hxx2
                  go_upto_region 24 with fail
                  generalize hW1 : wr.alloc (.cells #[.int .i64 s.kind, .int .i64 s.at_, .int .i64 s.many, .int .i64 s.odd, .int .i64 s.torn, .int .u8 s.c, .slice A' s.picks.length c'] 30) = W1 at P0 B0 ⊢
                  clear hW1 e0 e1 e2 e3 e4 e5 e6
                  have T1 := Aside0.mk (HT.out.below B0.out)
                  generalize hg1 : wr.heap.size = g1 at P0 B0 ⊢
                  have q0 := (blk_cell P0.out 0).trans (Eq.refl (some (Value.int .i64 s.kind)))
                  have q1 := (blk_cell P0.out 1).trans (Eq.refl (some (Value.int .i64 s.at_)))
                  have q2 := (blk_cell P0.out 2).trans (Eq.refl (some (Value.int .i64 s.many)))
                  have q3 := (blk_cell P0.out 3).trans (Eq.refl (some (Value.int .i64 s.odd)))
                  have q4 := (blk_cell P0.out 4).trans (Eq.refl (some (Value.int .i64 s.torn)))
                  have q5 := (blk_cell P0.out 5).trans (Eq.refl (some (Value.int .u8 s.c)))
                  have q6 := (blk_cell P0.out 6).trans (Eq.refl (some (Value.slice A' s.picks.length c')))
                  clear B0 hg1 HT
                  go_wp2_with fail
                  refine (HDt.out _ T1.out.bel).mono ?_
                  rintro e w6 ⟨rfl, hb6⟩
                  have T6 := Aside0.mk (T1.out.below hb6)
                  have r1 := (blk_cell (blk_below P0.out hb6) 1).trans (Eq.refl (some (Value.int .i64 s.at_)))
                  clear hb6 q0 q1 q2 q3 q4 q5 q6 P0 T1 HDt
                  obtain ⟨kk, hkk⟩ : ∃ kk : Int, kk = (j : Int) - s.at_ := ⟨_, rfl⟩
                  have hw : IntKind.i64.wrap ((j : Int) - s.at_) = kk := by rw [hkk]; exact IntWalk.i64_in _ (by omega)
                  obtain ⟨ob, hob⟩ : ∃ ob : Bool, ob = ((str.toList == z0.toList) || ((qOf ds).take m).any (hits j str)) := ⟨_, rfl⟩
                  have HNX : Aside0 (((str.toList == z0.toList) || ((qOf ds).take (m + 1)).any (hits j str)) = (ob || hits j str (s.at_, dataS s.many s.odd s.c))) := ⟨by rw [HTK.out, List.any_append, hob]; simp [Bool.or_assoc]⟩
                  rw [← hob]
                  clear hob
                  have HHit : Aside0 (hits j str (s.at_, dataS s.many s.odd s.c) = (decide (kk ≥ 0) && (decide (kk < (((dataS s.many s.odd s.c).size / 128 : Nat) : Int)) && ((blk (dataS s.many s.odd s.c) kk.toNat).toList == str.toList)))) := ⟨by rw [hkk]; rfl⟩
                  clear hkk
                  generalize dataS s.many s.odd s.c = dta at hds HNX HHit ⊢
                  go_upto_region 26 with fail
                  cases ob with
                  | true =>
                    go_wp2_with fail
                    go_roundw
                    case rel => exact ⟨m + 1, by omega, by rw [HNX.out]; rfl, by simp, T6⟩
                    case measure => simp [intOf]; omega
                  | false =>
                    by_cases k0 : kk ≥ 0
                    · have k0b : decide (kk ≥ 0) = true := decide_eq_true k0
                      by_cases k1 : kk < (((dta.size / 128 : Nat)) : Int)
                      · have k1b : decide (kk < (dta.size : Int) / 128) = true := decide_eq_true (by omega)
                        obtain ⟨x, hx⟩ : ∃ x : Nat, (x : Int) = kk * 128 := ⟨(kk * 128).toNat, by omega⟩
                        obtain ⟨y, hy⟩ : ∃ y : Nat, (y : Int) = (kk + 1) * 128 := ⟨((kk + 1) * 128).toNat, by omega⟩
                        have v2 : IntKind.i64.wrap (kk * 128) = (x : Int) := by rw [hx]; exact IntWalk.i64_in _ (by omega)
                        have v3 : IntKind.i64.wrap (kk + 1) = kk + 1 := IntWalk.i64_in _ (by omega)
                        have v4 : IntKind.i64.wrap ((kk + 1) * 128) = (y : Int) := by rw [hy]; exact IntWalk.i64_in _ (by omega)
                        have l1 : (x : Int) ≤ (y : Int) := by omega
                        have l2 : (y : Int) ≤ (dta.size : Int) := by omega
                        have hbk : dta.extract x y = blk dta kk.toNat := by
                          unfold blk
                          rw [show x = kk.toNat * 128 by omega, show y = (kk.toNat + 1) * 128 by omega]
                        clear hx hy
                        go_wp2_with fail
                        go_roundw
                        case rel => exact ⟨m + 1, by omega, by rw [HNX.out, HHit.out, k0b, decide_eq_true k1]; simp, by simp, T6⟩
                        case measure => simp [intOf]; omega
                      · have k1b : decide (kk < (dta.size : Int) / 128) = false := decide_eq_false (by omega)
                        go_wp2_with fail
                        go_roundw
                        case rel => exact ⟨m + 1, by omega, by rw [HNX.out, HHit.out, k0b, decide_eq_false k1]; rfl, by simp, T6⟩
                        case measure => simp [intOf]; omega
                    · have k0b : decide (kk ≥ 0) = false := decide_eq_false k0
                      go_wp2_with fail
                      go_roundw
                      case rel => exact ⟨m + 1, by omega, by rw [HNX.out, HHit.out, k0b]; rfl, by simp, T6⟩
                      case measure => simp [intOf]; omega
                · obtain rfl : m = ds.length := by omega
                  have hfull : ((str.toList == z0.toList) || ((qOf ds).take ds.length).any (hits j str)) = true := by
                    rw [List.take_of_length_le (by unfold qOf; simp)]
                    exact HH.out
                  rw [hfull]
                  go_wp2_with fail
                  go_roundw
                  case rel => exact ⟨j + 1, by omega, by simp, HT⟩
                  case measure => simp [intOf]; omega
            · obtain rfl : j = 6 := by omega
              go_wp2_with fail
              refine (speaks_calls _).mono ?_
              rintro e w6 ⟨rfl, hb6⟩
              have T6 := Aside0.mk (HS.out.bel.trans (hb6.mono HS.out.bel.size))
              clear hb6
              go_wp2_with fail
              go_ret
              exact ⟨rfl, T6.out⟩
theorem DevSome (W : World) (A : Option Addr) (n cp : Nat) (l : List Step) (h : (Kd.slice 30 stepK).K W l [.slice A n cp]) (hg : ∀ s ∈ l, goodStep s) (Ap : Option Addr) (np cpp : Nat) (picks : List Bool) (hp : (Kd.slice 4 Kd.bool).K W picks [.slice Ap np cpp]) (hpl : picks.length ≤ 140737488351232) (torn : Int) (_ : (Lit.int .i64 torn).wf = true) :
    Calls Try.prog 3 #[.slice A n cp, .slice Ap np cpp, .int .i64 torn] W fun e W' => e = .returned (.bool true) ∧ Below W.heap.size W W' := by
  obtain ⟨A1, c1, he, hcc, hC⟩ := h
  obtain ⟨rfl, rfl, rfl⟩ : A = A1 ∧ n = l.length ∧ cp = c1 := by simpa using he
  obtain ⟨A2, c2, he2, hcc2, hC2⟩ := hp
  obtain ⟨rfl, rfl, rfl⟩ : Ap = A2 ∧ np = picks.length ∧ cpp = c2 := by simpa using he2
  exact devSome W A l cp hC hg Ap picks cpp hC2 hpl torn
end Go.Proofs.Ytobhnababkpcbaa.Core
namespace Go.Proofs.Ytobhnababkpcbaa.Dev
open Go.RowKit Go.Proofs.YtobhnababkpcbaaW.PrintWords Go.Proofs.YtobhnababkpcbaaW.PrintLast Go.Proofs.YtobhnababkpcbaaW.PrintMore Go.Proofs.Ytobhnababkpcbaa.Open
theorem opens_picks : Opens Try.prog 23 (Kd.slice 4 Kd.bool) (fun l => l.length ≤ 140737488351232) :=
  Opens.mono (opens_slice Try.underlying23 (opens_bool Try.underlying4) (by kernel_rfl) (by_ := 1) (by kernel_rfl)) (fun x h => by have := h.1; omega)
end Go.Proofs.Ytobhnababkpcbaa.Dev
