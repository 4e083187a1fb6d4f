/- The document's device: New and Flush. -/
import Derived.Test.YtobhnababkpcbaaRefDevX
import Derived.Deep.OwnRows
set_option linter.unusedVariables false
set_option linter.unusedSimpArgs false
namespace Go.Proofs.Ytobhnababkpcbaa.Dev
open Go.RowKit Go.Proofs.YtobhnababkpcbaaW.PrintWords Go.Proofs.YtobhnababkpcbaaW.PrintLast Go.Proofs.YtobhnababkpcbaaW.PrintMore Go.Proofs.Ytobhnababkpcbaa.Maps Go.Proofs.Ytobhnababkpcbaa.DevS Go.Proofs.Ytobhnababkpcbaa.Given
theorem infoB4 : (Try.prog.info? 4).map (fun i => (i.zero, i.size, i.bytes)) = some (some (.bool false), 1, 1) := by kernel_rfl
theorem infoS4 : (Try.prog.info? 9).map (fun i => (i.zero, i.size, i.bytes)) = some (some (.string ⟨#[]⟩), 1, 16) := by kernel_rfl
section
variable {B eb : Nat} {v1 v2 : Value} {d : D} {w w' : World} {keep : Bool} {m : Nat}
set_option maxHeartbeats 800000 in
set_option maxRecDepth 100000 in
theorem ref_new_no (n : Int) (w : World) (h : n < 1 ∨ 1024 < n) : Calls Try.prog 16 #[.int .i64 n] w fun e w' => e = .returned (.tuple #[.pointer none, .int .i64 1]) ∧ Below w.heap.size w w' := by
  by_cases h1 : n < 1
  · have b1 : decide (n < 1) = true := decide_eq_true h1
    go_enter Try.func16, Try.ntmps16
    go_wp2
    go_ret2
    exact ⟨rfl, Below.refl _ _⟩
  · have b1 : decide (n < 1) = false := decide_eq_false h1
    have b2 : decide (n > 1024) = true := decide_eq_true (by omega)
    go_enter Try.func16, Try.ntmps16
    go_wp2
    go_ret2
    exact ⟨rfl, Below.refl _ _⟩
theorem ref_new_is (B n : Nat) (w : World) (hB : B ≤ w.heap.size) (h2 : n ≤ 1024) : RefIs B ((w.alloc (.cells (madeCells #[.string ⟨#[]⟩] n) 9)).alloc (.cells #[.slice (some ⟨w.heap.size, 0, none⟩) n n, .slice none 0 0] 47)) (w.heap.size + 1) (.slice (some ⟨w.heap.size, 0, none⟩) n n) (.slice none 0 0) (dNew n) := by
  have s1 : (w.alloc (.cells (madeCells #[.string ⟨#[]⟩] n) 9)).heap.size = w.heap.size + 1 := by simp
  have r1 := World.ownsRow_lit (e := 9) (base := B) (size := 1) w (madeCells #[.string ⟨#[]⟩] n) n hB (by simp only [maxLen]; omega) (by simp [madeCells])
  rw [toList_madeCells_one] at r1
  refine ⟨?_, own_same (w := w.alloc (.cells (madeCells #[.string ⟨#[]⟩] n) 9)) ?_ (fun k hk => Below.heap_alloc _ _ k (own_lt r1 k hk)), own_nil _ _ _ _, by omega, wf_new h2, fun k s e => by simp [dNew] at e⟩
  · have := blk_new (w.alloc (.cells (madeCells #[.string ⟨#[]⟩] n) 9)) (.cells #[.slice (some ⟨w.heap.size, 0, none⟩) n n, .slice none 0 0] 47)
    rwa [s1] at this
  · have e : lv (dNew n) = List.replicate n (.string ⟨#[]⟩) := by
      apply List.ext_getElem?
      intro j
      by_cases hj : j < n
      · simp [lv, dNew, hj]
      · simp [lv, dNew, hj]
    rw [e]
    exact r1
set_option maxHeartbeats 800000 in
set_option maxRecDepth 100000 in
theorem ref_new (n : Nat) (w : World) (h1 : 1 ≤ n) (h2 : n ≤ 1024) : Calls Try.prog 16 #[.int .i64 n] w fun e w' => ∃ eb v1, e = .returned (.tuple #[ptr eb, .int .i64 0]) ∧ RefIs w.heap.size w' eb v1 (.slice none 0 0) (dNew n) ∧ Below w.heap.size w w' := by
  have hu := Try.underlying47
  have b1 : decide (n < 1) = false := decide_eq_false (by omega)
  have b2 : decide (1024 < n) = false := decide_eq_false (by omega)
  have b3 : decide ((n : Int) < 1) = false := decide_eq_false (by omega)
  have km := run_make_row' (P := Try.prog) 44 9 (.string ⟨#[]⟩) 16 Try.underlying44 infoS4 rfl .i64 .i64 n (by omega) (by omega)
  have R := Aside0.mk (ref_new_is w.heap.size n w (Nat.le_refl _) h2)
  have Bl := Aside0.mk (below_alloc (below_alloc (Below.refl w.heap.size w) (.cells (madeCells #[.string ⟨#[]⟩] n) 9)) (.cells #[.slice (some ⟨w.heap.size, 0, none⟩) n n, .slice none 0 0] 47))
  go_enter Try.func16, Try.ntmps16
  go_wp2_with fail
  go_ret2
  exact ⟨_, _, rfl, R.out, Bl.out⟩
theorem row_picks {v : Value} (h : Row B w v keep m) : ∃ A c, v = .slice A (List.replicate m keep).length c ∧ Picks w A (List.replicate m keep) ∧ ∀ ad, A = some ad → B ≤ ad.block ∧ ad.block < w.heap.size := by
  have hl : (List.replicate m (Value.bool keep)).length = (List.replicate m keep).length := by simp
  have hlt := own_lt h
  have hge := own_base h
  rcases h.2 with ⟨rfl, h0⟩ | ⟨g, cap, cur, rfl, _, hg, hrest⟩
  · have hm : m = 0 := by simpa using h0
    subst hm
    exact ⟨none, 0, rfl, Picks.nil _ _, fun ad e => by cases e⟩
  · refine ⟨some ⟨g, 0, none⟩, cap, by rw [← hl], fun i hi => ⟨⟨g, 0, none⟩, rfl, ?_⟩, fun ad e => ?_⟩
    · have hc := World.ownsRow.cellAt h i (by rw [hl]; omega)
      have hadd : (⟨g, 0, none⟩ : Addr).add i = ⟨g, i, none⟩ := by unfold Addr.add; split <;> simp_all
      have hi2 : i < m := by simpa using hi
      rw [hadd, hc]
      simp [List.getElem?_replicate, hi2]
    · obtain rfl := Option.some.inj e
      exact ⟨hge g rfl, hlt g rfl⟩
theorem RefIs.any (h : RefIs B w eb v1 v2 d) (f : F) : RefIs B w eb v1 v2 { d with se := f } := ⟨h.dev, h.row, h.que, h.be, h.wf, h.full⟩
set_option maxHeartbeats 3200000 in
set_option maxRecDepth 100000 in
theorem ref_flush (h : RefIs B w eb v1 v2 d) (hn : 1 ≤ d.n) (hB : B ≤ w.heap.size) (hql : d.q.length ≤ 1000000) :
    Calls Try.prog 19 #[ptr eb] w (RefPost B eb v1 v2 w (dFlush d) (.tuple #[])) := by
  have hu := Try.underlying47
  have hup := Try.underlying38
  obtain ⟨Aq, cq, rfl⟩ := own_slice h.que
  have H := Aside0.mk h
  clear h
  unfold ptr at *
  go_enter Try.func19, Try.ntmps19
  go_wp2_with fail
  go_loopw [2, 3] (fun v2 v3 wr => ∃ (i : Nat), i ≤ d.q.length ∧ v3 = .int .i64 (i : Int) ∧ Aside0 (Row w.heap.size wr v2 true i) ∧ Aside0 (Below w.heap.size w wr)) (fun _ x _ => d.q.length - (intOf x).toNat)
  case atStart => exact ⟨0, by omega, rfl, ⟨own_nil _ _ _ _⟩, ⟨Below.refl _ _⟩⟩
  case round =>
    obtain ⟨i, hi, rfl, HR, HB⟩ := hrel
    have HI := Aside0.mk (H.out.below HB.out)
    have c1 := HI.out.c1
    by_cases hlt : i < d.q.length
    · have hltb : decide (i < d.q.length) = true := decide_eq_true hlt
      have hml : ((List.replicate i (Value.bool true)).length + 1) * 1 ≤ 140737488355328 := by rw [List.length_replicate]; omega
      go_wp2_with (at_builtin; refine print_append w.heap.size rfl (.tmp 13) (.tmp 14) 23 4 (.bool false) 1 rfl Try.underlying23 infoB4 rfl (by decide) _ _ (.bool true) rfl rfl rfl HR.out HB.out HB.out.size hml ?_; intro v6 w6 hr6 hb6 hg6 _; have R6 := Aside0.mk hr6; have B6 := Aside0.mk hb6; clear hr6 hb6 hg6)
      go_roundw
      case rel => exact ⟨i + 1, by omega, by simp, ⟨by have h6 := R6.out; unfold Row; rw [List.replicate_succ']; exact h6⟩, B6⟩
      case measure => simp [intOf]; omega
    · have hltb : decide (i < d.q.length) = false := decide_eq_false hlt
      obtain rfl : i = d.q.length := by omega
      obtain ⟨A, c, hv, hp, hs⟩ := row_picks HR.out
      have HC := Aside0.mk (ref_crash (picks := List.replicate d.q.length true) (torn := 0) (c := c) HI.out hn (Nat.le_trans hB HB.out.size) hql hp (by simp; omega) (fun ad e _ => ⟨fun hk => by have h1 := H.out.fr_lt hk; have h2 := (hs ad e).1; omega, (hs ad e).2⟩))
      have ec : (dCrash d (List.replicate d.q.length true) 0) = ({ d with la := flushF d.la d.q, se := flushF d.la d.q, q := [] }, 0) := by
        unfold dCrash
        rw [if_neg (by decide), if_neg (by decide), crash_all _ _ _ _ _ _ (fun j _ hj => by rw [List.getElem?_replicate, if_pos (by omega)])]
      rw [ec] at HC
      have HBl := Aside0.mk HB.out
      simp only [List.length_replicate] at hv HC
      subst hv
      clear hp hs ec
      go_wp2_with fail
      refine HC.out.mono ?_
      rintro e w2 ⟨u1, u2, rfl, hr2, hf2, hk2⟩
      have R2 := Aside0.mk hr2
      have F2 := Aside0.mk hf2
      have K2 := Aside0.mk hk2
      clear hr2 hf2 hk2 HC
      go_wp2_with fail
      first | go_end0 | refine bodyPost_ret (results_none rfl _ _ _) rfl ?_
      refine ⟨u1, u2, rfl, R2.out.any d.se, (Fr.of_below HBl.out _).trans F2.out (fun k hk => .inl hk), fun k hk => ?_⟩
      rcases K2.out k hk with h1 | h1
      · exact .inl h1
      · exact .inr (Nat.le_trans HBl.out.size h1)
end
end Go.Proofs.Ytobhnababkpcbaa.Dev
