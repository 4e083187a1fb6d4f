/- Changes in memory: the comparison. -/
import Derived.Test.YtlmnfnkjbgnklaaTxn
import Derived.Test.YtlmnfnkjbgnklaaWEqStruct
set_option linter.unusedVariables false
set_option linter.unusedSimpArgs false
namespace Go.Proofs.Ytlmnfnkjbgnklaa.Txn
open Go.RowKit Go.Proofs.YtlmnfnkjbgnklaaW.PrintWords Go.Proofs.YtlmnfnkjbgnklaaW.PrintLast Go.Proofs.YtlmnfnkjbgnklaaW.PrintMore Go.Proofs.Ytlmnfnkjbgnklaa.TxnS
theorem part_ci (x : Int) (s : ByteArray) (w : World) : (part 3 #[.int .i64 x, .string s] 0).run Try.prog w = .ok (.int .i64 x) w := by
  have h : (Try.prog.info? 3).map (·.size) = some 1 := by kernel_rfl
  have hu : Try.prog.underlying 3 = some (.int .i64) := Try.underlying3
  simp [part, sizeOf, go_sem]
theorem part_cs (x : Int) (s : ByteArray) (w : World) : (part 9 #[.int .i64 x, .string s] 1).run Try.prog w = .ok (.string s) w := by
  simp [part, sizeOf, go_sem]
theorem eq_iff (x : ByteArray) (y : ByteArray) : (x.toList == y.toList) = decide (x = y) := by
  rw [Bool.eq_iff_iff]
  simp only [beq_iff_eq, decide_eq_true_eq]
  exact Spec.toList_eq_iff x y
theorem chg_eq (w : World) (a b : Int) (s t : ByteArray) : (Op.equalIn 10000 69 (.agg #[.int .i64 a, .string s]) (.agg #[.int .i64 b, .string t])).run Try.prog w = .ok (decide (((a, s) : Ch) = (b, t))) w := by
  have e : ((a == b) && (s.toList == t.toList)) = decide (((a, s) : Ch) = (b, t)) := by
    rw [eq_iff, Bool.eq_iff_iff]
    simp [Prod.ext_iff]
  rw [← e]
  exact eqA_of (P := Try.prog) (w := w) (d := 9999) (xs := #[.int .i64 a, .string s]) (ys := #[.int .i64 b, .string t]) Try.underlying69 (by kernel_rfl) (eqf_cons (by decide) (part_ci a s w) (part_ci b t w) (run_equalIn_int w 9998 3 .i64 .i64 a b Try.underlying3) (eqf_last (by decide) (part_cs a s w) (part_cs b t w) (run_equalIn_string (w := w) 9998 9 s t Try.underlying9)))
set_option maxHeartbeats 3200000 in
set_option maxRecDepth 100000 in
theorem changes_calls (la lb : List Ch) (A B : Option Addr) (c c' : Nat) (w : World) (ha : Chs w A la) (hb : Chs w B lb) (hl : la.length ≤ 1125899906842624) (hl2 : lb.length ≤ 1125899906842624) : Calls Try.prog 46 #[.slice A la.length c, .slice B lb.length c'] w fun e w' => e = .returned (.bool (decide (la = lb))) ∧ Below w.heap.size w w' := by
  have hu := Try.underlying69
  have HA := Aside0.mk ha
  have HB := Aside0.mk hb
  clear ha hb
  by_cases hn : la.length = lb.length
  · have hnb : ((la.length : Int) != (lb.length : Int)) = false := by simp [hn]
    have HN := Aside0.mk hn
    clear hn
    go_enter Try.func46, Try.ntmps46
    go_wp2_with fail
    go_loopw [13] (fun v13 wr => ∃ i : Nat, i ≤ la.length ∧ v13 = .int .i64 (i : Int) ∧ Aside0 (la.take i = lb.take i) ∧ Aside0 (Below w.heap.size w wr)) (fun x _ => la.length - (intOf x).toNat)
    case atStart => exact ⟨0, by omega, rfl, ⟨by simp⟩, ⟨Below.refl _ _⟩⟩
    case round =>
      obtain ⟨i, hi, rfl, HE, HBl⟩ := hrel
      by_cases hlt : i < la.length
      · have hltb : i < lb.length := by have := HN.out; omega
        obtain ⟨ad, rfl, e0, e1⟩ := (HA.out.below HBl.out) i hlt
        obtain ⟨bd, rfl, d0, d1⟩ := (HB.out.below HBl.out) i hltb
        have hta : la.take (i + 1) = la.take i ++ [la[i]] := by rw [List.take_succ_eq_append_getElem hlt]
        have htb : lb.take (i + 1) = lb.take i ++ [lb[i]] := by rw [List.take_succ_eq_append_getElem hltb]
        have hx1 : (la[i], lb[i]).1 = la[i] := rfl
        obtain ⟨x, hx⟩ : ∃ x, x = la[i] := ⟨_, rfl⟩
        obtain ⟨y, hy⟩ : ∃ y, y = lb[i] := ⟨_, rfl⟩
        rw [← hx] at e0 e1 hta
        rw [← hy] at d0 d1 htb
        have No : Aside0 (¬ x = y → decide (la = lb) = false) := ⟨fun hn => decide_eq_false (fun e => hn (by rw [hx, hy]; subst e; rfl))⟩
        have TA := Aside0.mk hta
        have TB := Aside0.mk htb
        clear hx hy hx1 hta htb
        obtain ⟨a, s⟩ := x
        obtain ⟨b, t⟩ := y
        dsimp only at e0 e1 d0 d1
        by_cases g : ((a, s) : Ch) = (b, t)
        · have hce : ∀ w : World, (Op.equalIn 10000 69 (.agg #[.int .i64 a, .string s]) (.agg #[.int .i64 b, .string t])).run Try.prog w = .ok true w := fun w => (chg_eq w a b s t).trans (by rw [decide_eq_true g])
          have HE2 : Aside0 (la.take (i + 1) = lb.take (i + 1)) := ⟨by rw [TA.out, TB.out, HE.out, g]⟩
          clear g
          go_upto_region 6 with fail
          go_big_quiet (fail)
          go_wp2_with fail
          go_roundw
          case rel => exact ⟨i + 1, by omega, by simp, HE2, ⟨below_n HBl.out _⟩⟩
          case measure => simp [intOf]; omega
        · have hce : ∀ w : World, (Op.equalIn 10000 69 (.agg #[.int .i64 a, .string s]) (.agg #[.int .i64 b, .string t])).run Try.prog w = .ok false w := fun w => (chg_eq w a b s t).trans (by rw [decide_eq_false g])
          have N2 := Aside0.mk (No.out g)
          clear g
          go_upto_region 6 with fail
          go_big_quiet (fail)
          go_wp2_with fail
          go_ret
          exact ⟨by rw [N2.out]; rfl, below_n HBl.out _⟩
      · obtain rfl : i = la.length := by omega
        have N2 : Aside0 (decide (la = lb) = true) := ⟨decide_eq_true (by
          have h := HE.out
          rw [List.take_length, HN.out, List.take_length] at h
          exact h)⟩
        go_wp2_with fail
        go_ret
        exact ⟨by rw [N2.out]; rfl, HBl.out⟩
  · have hnb : ((la.length : Int) != (lb.length : Int)) = true := by simp; omega
    have N2 : Aside0 (decide (la = lb) = false) := ⟨decide_eq_false (fun e => hn (by rw [e]))⟩
    clear hn
    go_enter Try.func46, Try.ntmps46
    go_wp2_with fail
    go_ret
    exact ⟨by rw [N2.out]; rfl, Below.refl _ _⟩
end Go.Proofs.Ytlmnfnkjbgnklaa.Txn
