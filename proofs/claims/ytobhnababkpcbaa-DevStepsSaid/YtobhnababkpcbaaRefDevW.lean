/- The document's device: Read. -/
import Derived.Test.YtobhnababkpcbaaRefDevQ
set_option linter.unusedVariables false
set_option linter.unusedSimpArgs false
namespace Go.Proofs.Ytobhnababkpcbaa.Dev
open Go.RowKit Go.Proofs.YtobhnababkpcbaaW.PrintWords Go.Proofs.YtobhnababkpcbaaW.PrintLast Go.Proofs.YtobhnababkpcbaaW.PrintMore Go.Proofs.Ytobhnababkpcbaa.Maps Go.Proofs.Ytobhnababkpcbaa.DevS Go.Proofs.Ytobhnababkpcbaa.Given
section
variable {B eb : Nat} {v1 v2 : Value} {d : D} {w w' : World}
set_option maxHeartbeats 3200000 in
set_option maxRecDepth 100000 in
theorem ref_read_out (h : RefIs B w eb v1 v2 d) (hn : 1 ≤ d.n) (hql : d.q.length ≤ 1000000) (a : Int) (hin : ¬ inD d a) : Calls Try.prog 26 #[ptr eb, .int .i64 a] w fun e w' => e = .returned (.tuple #[.string ⟨#[]⟩, .int .i64 6]) ∧ Below w.heap.size w w' := by
  have hu := Try.underlying47
  have hup := Try.underlying38
  have huw := Try.underlying65
  have el : dLasts d a = (⟨#[]⟩, 6) := if_neg hin
  have HL := Aside0.mk (ref_lasts h hn a)
  rw [el] at HL
  obtain ⟨A, c, rfl⟩ := own_slice h.que
  have H := Aside0.mk h
  clear h hin el
  unfold ptr at *
  go_enter Try.func26, Try.ntmps26
  go_wp2_with fail
  refine HL.out.mono ?_
  rintro e w1 ⟨rfl, hb⟩
  have B1 := Aside0.mk hb
  have c1 := (H.out.below hb).c1
  clear hb HL
  go_wp2_with fail
  go_loopw [6, 22] (fun v6 v22 wr => ∃ (i : Nat), i ≤ d.q.length ∧ v6 = .string ⟨#[]⟩ ∧ v22 = .int .i64 (i : Int) ∧ Aside0 (Below w.heap.size w wr)) (fun _ x _ => d.q.length - (intOf x).toNat)
  case atStart => exact ⟨0, by omega, rfl, rfl, B1⟩
  case round =>
    obtain ⟨i, hi, rfl, rfl, HB⟩ := hrel
    by_cases hlt : i < d.q.length
    · obtain ⟨k1, k2⟩ := wv_at d.q i hlt
      obtain ⟨g, rfl⟩ : ∃ g, A = some ⟨g, 0, none⟩ := by
        rcases H.out.que.2 with ⟨h1, h2⟩ | ⟨g, cap, cur, h1, _⟩
        · simp at h1
          omega
        · simp at h1
          exact ⟨g, h1.1⟩
      have R3 := Aside0.mk (H.out.below HB.out).que
      have e0 := (R3.out.cellAt (i * 2) (by omega)).trans k1
      have e1 := (R3.out.cellAt (i * 2 + 1) (by omega)).trans k2
      generalize hx : d.q[i] = x at e0 e1
      obtain ⟨p, s⟩ := x
      clear k1 k2 c1 hx
      have P1 := Aside0.mk (blk_new wr (.cells #[.int .i64 p, .string s] 65))
      have B2 := Aside0.mk (HB.out.trans ((below_alloc (Below.refl wr.heap.size wr) (.cells #[.int .i64 p, .string s] 65)).mono HB.out.size))
      go_upto_region 5 with fail
      generalize hW : wr.alloc (.cells #[.int .i64 p, .string s] 65) = W1 at P1 B2 ⊢
      clear hW e0 e1
      have p0 := (blk_cell P1.out 0).trans (Eq.refl (some (Value.int .i64 p)))
      have p1 := (blk_cell P1.out 1).trans (Eq.refl (some (Value.string s)))
      go_wp2_with fail
      go_roundw
      case rel => exact ⟨i + 1, by omega, rfl, by simp, by exact B2⟩
      case measure => simp [intOf]; omega
    · obtain rfl : i = d.q.length := by omega
      go_wp2_with fail
      go_ret2
      exact ⟨rfl, HB.out⟩
set_option maxHeartbeats 3200000 in
set_option maxRecDepth 100000 in
theorem ref_read_in (h : RefIs B w eb v1 v2 d) (hn : 1 ≤ d.n) (hse : d.se = flushF d.la d.q) (hql : d.q.length ≤ 1000000) (a : Int) (hin : inD d a) : Calls Try.prog 26 #[ptr eb, .int .i64 a] w fun e w' => e = .returned (.tuple #[.string (DevS.look d.se a), .int .i64 0]) ∧ Below w.heap.size w w' := by
  have hu := Try.underlying47
  have hup := Try.underlying38
  have huw := Try.underlying65
  have el : dLasts d a = (DevS.look d.la a, 0) := if_pos hin
  have HL := Aside0.mk (ref_lasts h hn a)
  rw [el] at HL
  have HE : Aside0 (readQ a (DevS.look d.la a) d.q = DevS.look d.se a) := ⟨by
    rw [hse]
    exact readQ_look a d.q d.la (fun p hp => Nat.le_trans (h.wf.2 p hp).2.2.1 h.wf.1)⟩
  obtain ⟨A, c, rfl⟩ := own_slice h.que
  have H := Aside0.mk h
  have ha : 0 ≤ a ∧ a ≤ 1024 := ⟨hin.1, by have h1 := hin.2; have h2 := h.wf.1; omega⟩
  clear h hin el hse
  obtain ⟨an, rfl⟩ : ∃ n : Nat, a = n := ⟨a.toNat, by omega⟩
  unfold ptr at *
  go_enter Try.func26, Try.ntmps26
  go_wp2_with fail
  refine HL.out.mono ?_
  rintro e w1 ⟨rfl, hb⟩
  have B1 := Aside0.mk hb
  have c1 := (H.out.below hb).c1
  clear hb HL
  go_wp2_with fail
  go_loopw [6, 22] (fun v6 v22 wr => ∃ (i : Nat) (s : ByteArray), i ≤ d.q.length ∧ v6 = .string s ∧ v22 = .int .i64 (i : Int) ∧ Aside0 (readQ an s (d.q.drop i) = DevS.look d.se an) ∧ Aside0 (Below w.heap.size w wr)) (fun _ x _ => d.q.length - (intOf x).toNat)
  case atStart => exact ⟨0, _, by omega, rfl, rfl, HE, B1⟩
  case round =>
    clear HE
    obtain ⟨i, s0, hi, rfl, rfl, HE, HB⟩ := hrel
    by_cases hlt : i < d.q.length
    · obtain ⟨k1, k2⟩ := wv_at d.q i hlt
      obtain ⟨g, rfl⟩ : ∃ g, A = some ⟨g, 0, none⟩ := by
        rcases H.out.que.2 with ⟨h1, h2⟩ | ⟨g, cap, cur, h1, _⟩
        · simp at h1
          omega
        · simp at h1
          exact ⟨g, h1.1⟩
      have R3 := Aside0.mk (H.out.below HB.out).que
      have e0 := (R3.out.cellAt (i * 2) (by omega)).trans k1
      have e1 := (R3.out.cellAt (i * 2 + 1) (by omega)).trans k2
      have hwf := H.out.wf.2 _ (List.getElem_mem hlt)
      have hst := HE.out
      rw [List.drop_eq_getElem_cons hlt, readQ] at hst
      generalize d.q[i] = x at e0 e1 hwf hst
      obtain ⟨p, s⟩ := x
      have hwn := H.out.wf.1
      obtain ⟨pn, rfl⟩ : ∃ n : Nat, p = n := ⟨p.toNat, by have := hwf.2.1; simp only at this; omega⟩
      have hsz : s.size / 128 ≤ 1024 := Nat.le_trans hwf.2.2.1 hwn
      have hp2 : (pn : Int) ≤ 1024 := by have h1 : (pn : Int) ≤ (d.n : Int) - (s.size / 128 : Nat) := hwf.2.2.2; omega
      have hss : s.size ≤ 1048576 := by have h1 : s.size % 128 = 0 := hwf.1.2; omega
      clear k1 k2 c1 hwf hwn
      obtain ⟨m, hm⟩ : ∃ m : Nat, m = s.size / 128 := ⟨_, rfl⟩
      have HmI : Aside0 ((s.size : Int) / 128 = (m : Int)) := ⟨by omega⟩
      have HmN := Aside0.mk hm
      have HST := Aside0.mk hst
      rw [← hm] at hsz
      clear hst hm
      have P1 := Aside0.mk (blk_new wr (.cells #[.int .i64 pn, .string s] 65))
      have B2 := Aside0.mk (HB.out.trans ((below_alloc (Below.refl wr.heap.size wr) (.cells #[.int .i64 pn, .string s] 65)).mono HB.out.size))
      go_upto_region 5 with fail
      generalize hW : wr.alloc (.cells #[.int .i64 pn, .string s] 65) = W1 at P1 B2 ⊢
      clear hW e0 e1 HE HB
      have p0 := (blk_cell P1.out 0).trans (Eq.refl (some (Value.int .i64 pn)))
      have p1 := (blk_cell P1.out 1).trans (Eq.refl (some (Value.string s)))
      have w1 : IntKind.i64.wrap ((an : Int) - (pn : Int)) = (an : Int) - (pn : Int) := IntWalk.i64_in _ (by omega)
      by_cases g1 : (an : Int) - (pn : Int) ≥ 0
      · have q1 : decide ((an : Int) - (pn : Int) ≥ 0) = true := decide_eq_true g1
        obtain ⟨j, hj⟩ : ∃ j : Nat, (an : Int) - (pn : Int) = j := ⟨((an : Int) - (pn : Int)).toNat, by omega⟩
        rw [hj] at q1
        replace w1 : IntKind.i64.wrap ((an : Int) - (pn : Int)) = (j : Int) := w1.trans hj
        have HJ := Aside0.mk hj
        by_cases g2 : j < m
        · have q2 : decide ((j : Int) < (s.size : Int) / 128) = true := decide_eq_true (by rw [HmI.out]; omega)
          obtain ⟨x, hx⟩ : ∃ x : Nat, x = j * 128 := ⟨_, rfl⟩
          obtain ⟨y, hy⟩ : ∃ y : Nat, y = (j + 1) * 128 := ⟨_, rfl⟩
          have x1 : (j : Int) * 128 = (x : Int) := by omega
          have y1 : ((j : Int) + 1) * 128 = (y : Int) := by omega
          have w2 : IntKind.i64.wrap ((j : Int) * 128) = (x : Int) := by rw [x1]; exact IntWalk.i64_in _ (by omega)
          have w3 : IntKind.i64.wrap ((j : Int) + 1) = (j : Int) + 1 := IntWalk.i64_in _ (by omega)
          have w4 : IntKind.i64.wrap (((j : Int) + 1) * 128) = (y : Int) := by rw [y1]; exact IntWalk.i64_in _ (by omega)
          have HN : Aside0 (readQ an (s.extract x y) (d.q.drop (i + 1)) = DevS.look d.se an) := ⟨by
            have hst := HST.out
            rw [if_pos ⟨by show (pn : Int) ≤ an; omega, by show (an : Int) < pn + (s.size / 128 : Nat); rw [← HmN.out]; omega⟩] at hst
            rw [hx, hy]
            have ej : ((an : Int) - pn).toNat = j := by omega
            show readQ _ (blk s j) _ = _
            rw [← ej]
            exact hst⟩
          have l1 : (x : Int) ≤ (y : Int) := by omega
          have l2 : (y : Int) ≤ (s.size : Int) := by have := HmN.out; omega
          clear x1 y1 hx hy g1 HmI
          go_wp2_with fail
          go_roundw
          case rel => exact ⟨i + 1, _, by omega, rfl, by simp, HN, by exact B2⟩
          case measure => simp [intOf]; omega
        · have q2 : decide ((j : Int) < (s.size : Int) / 128) = false := decide_eq_false (by rw [HmI.out]; omega)
          have HN : Aside0 (readQ an s0 (d.q.drop (i + 1)) = DevS.look d.se an) := ⟨by
            have hst := HST.out
            rwa [if_neg (fun hc => by have h2 : (an : Int) < pn + (s.size / 128 : Nat) := hc.2; rw [← HmN.out] at h2; omega)] at hst⟩
          clear g1 HmI
          go_wp2_with fail
          go_roundw
          case rel => exact ⟨i + 1, _, by omega, rfl, by simp, HN, by exact B2⟩
          case measure => simp [intOf]; omega
      · have q1 : decide ((an : Int) - (pn : Int) ≥ 0) = false := decide_eq_false g1
        have HN : Aside0 (readQ an s0 (d.q.drop (i + 1)) = DevS.look d.se an) := ⟨by
          have hst := HST.out
          rwa [if_neg (fun hc => by have h1 : (pn : Int) ≤ an := hc.1; omega)] at hst⟩
        have q2 : decide (pn ≤ an) = false := decide_eq_false (by omega)
        have q3 : decide ((pn : Int) ≤ (an : Int)) = false := decide_eq_false (by omega)
        have q4 : decide (0 ≤ (an : Int) - (pn : Int)) = false := decide_eq_false (by omega)
        clear g1 HmI
        go_wp2_with fail
        go_roundw
        case rel => exact ⟨i + 1, _, by omega, rfl, by simp, HN, by exact B2⟩
        case measure => simp [intOf]; omega
    · obtain rfl : i = d.q.length := by omega
      have hE := HE.out
      rw [List.drop_length] at hE
      have HE2 : Aside0 (s0 = DevS.look d.se an) := ⟨hE⟩
      clear hE
      go_wp2_with fail
      go_ret2
      exact ⟨by rw [HE2.out]; rfl, HB.out⟩
theorem ref_read (h : RefIs B w eb v1 v2 d) (hn : 1 ≤ d.n) (hse : d.se = flushF d.la d.q) (hql : d.q.length ≤ 1000000) (a : Int) : Calls Try.prog 26 #[ptr eb, .int .i64 a] w fun e w' => e = .returned (.tuple #[.string (dRead d a).1, .int .i64 (dRead d a).2]) ∧ Below w.heap.size w w' := by
  unfold dRead
  by_cases hin : inD d a
  · rw [if_pos hin]
    exact ref_read_in h hn hse hql a hin
  · rw [if_neg hin]
    exact ref_read_out h hn hql a hin
end
end Go.Proofs.Ytobhnababkpcbaa.Dev
