/- The document's device: Crash. -/
import Derived.Test.YtobhnababkpcbaaRefDevW
set_option linter.unusedVariables false
set_option linter.unusedSimpArgs false
namespace Go.Proofs.Ytobhnababkpcbaa.Dev
open Go.RowKit Go.Proofs.YtobhnababkpcbaaW.PrintWords Go.Proofs.YtobhnababkpcbaaW.PrintLast Go.Proofs.YtobhnababkpcbaaW.PrintMore Go.Proofs.Ytobhnababkpcbaa.Maps Go.Proofs.Ytobhnababkpcbaa.DevS Go.Proofs.Ytobhnababkpcbaa.Given
def lvF (f : F) (n : Nat) : List Value := (List.range n).map fun k => Value.string ((f (k : Nat)).getD ⟨#[]⟩)
theorem lvF_length (f : F) (n : Nat) : (lvF f n).length = n := by simp [lvF]
theorem lvF_put (f : F) (n k : Nat) (s : ByteArray) (h : k < n) : (lvF f n).set k (.string s) = lvF (put f k s) n := by
  apply List.ext_getElem?
  intro j
  by_cases e : j = k
  · subst e
    rw [List.getElem?_set_self (by rw [lvF_length]; exact h)]
    simp [lvF, h, put]
  · rw [List.getElem?_set_ne (Ne.symm e)]
    by_cases hj : j < n
    · have : ¬ ((k : Int) = (j : Int)) := by omega
      simp [lvF, hj, put, this]
    · simp [lvF, hj]
def Full (f : F) : Prop := ∀ k s, f k = some s → s.size = 128
theorem full_put {f : F} (h : Full f) (k : Int) (s : ByteArray) (hs : s.size = 128) : Full (put f k s) := by
  intro c t hc
  unfold put at hc
  split at hc
  · obtain rfl := Option.some.inj hc; exact hs
  · exact h c t hc
theorem blk_size (s : ByteArray) (j : Nat) (h : (j + 1) * 128 ≤ s.size) : (blk s j).size = 128 := by
  unfold blk
  rw [ByteArray.size_extract]
  omega
section
variable {B eb : Nat} {v1 v2 : Value} {d : D} {w w' : World} {picks : List Bool} {A : Option Addr} {c : Nat} {torn : Int}
set_option maxHeartbeats 800000 in
set_option maxRecDepth 100000 in
theorem ref_crash_arg (r p : Value) (w : World) (h : torn < 0 ∨ 1024 < torn) : Calls Try.prog 20 #[r, p, .int .i64 torn] w fun e w' => e = .returned (.int .i64 1) ∧ w' = w := by
  by_cases h1 : torn < 0
  · have b1 : decide (torn < 0) = true := decide_eq_true h1
    go_enter Try.func20, Try.ntmps20
    go_wp2
    go_ret
    exact ⟨rfl, rfl⟩
  · have b1 : decide (torn < 0) = false := decide_eq_false h1
    have b2 : decide (torn > 1024) = true := decide_eq_true (by omega)
    go_enter Try.func20, Try.ntmps20
    go_wp2
    go_ret
    exact ⟨rfl, rfl⟩
/-- Behind the whole loop. -/
theorem ref_crash_end {wr : World} {f : F} (h : RefIs B w eb v1 v2 d) (hd : wr.heap[eb]? = some (.cells #[v1, v2] 47 (0, 0))) (hr : wr.ownsRow B 9 1 v1 d.n (lvF f d.n)) (hf : Full f) (hF : Fr w wr (fun k => v1.ownBlock = some k)) (se : F) :
    RefIs B (wr.setCell ⟨eb, 1, none⟩ (.slice none 0 0)) eb v1 (.slice none 0 0) ⟨d.n, f, se, []⟩ ∧ Fr w (wr.setCell ⟨eb, 1, none⟩ (.slice none 0 0)) (fr eb v1 v2) ∧ ∀ k, fr eb v1 (.slice none 0 0) k → fr eb v1 v2 k ∨ w.heap.size ≤ k := by
  obtain ⟨n1, n2, n3⟩ := h.eb_ne
  refine ⟨⟨by simpa using blk_set hd 1 (.slice none 0 0), own_same hr (fun k hk => Below.heap_setCell wr ⟨eb, 1, none⟩ _ k (fun e => n1 (hk.trans (congrArg some e)))), own_nil _ _ _ _, h.be, ⟨h.wf.1, by simp⟩, hf⟩, ⟨hF.os, hF.tape, hF.output, by have := hF.size; simp only [World.setCell, Array.size_modify]; omega, fun k hk hn => (Below.heap_setCell wr ⟨eb, 1, none⟩ _ k (fun e => hn (.inl e))).trans (hF.block k hk (fun e => hn (.inr (.inl e))))⟩, ?_⟩
  rintro k (e | e | e)
  · exact .inl (.inl e)
  · exact .inl (.inr (.inl e))
  · simp [Value.ownBlock] at e
set_option maxHeartbeats 6400000 in
set_option maxRecDepth 100000 in
theorem ref_crash_ok (tn : Nat) (h : RefIs B w eb v1 v2 d) (hn : 1 ≤ d.n) (hB : B ≤ w.heap.size) (hql : d.q.length ≤ 1000000) (ht : tn ≤ 1024) (hp : Picks w A picks) (hpl : picks.length ≤ 140737488355328) (hsep : ∀ ad, A = some ad → picks ≠ [] → ¬ fr eb v1 v2 ad.block ∧ ad.block < w.heap.size) :
    Calls Try.prog 20 #[ptr eb, .slice A picks.length c, .int .i64 tn] w (RefPost B eb v1 v2 w { d with la := crashF picks tn 0 true d.la d.q, se := crashF picks tn 0 true d.la d.q, q := [] } (.int .i64 0)) := by
  have hu := Try.underlying47
  have hup := Try.underlying38
  have huw := Try.underlying65
  have b1 : decide ((tn : Int) < 0) = false := decide_eq_false (by omega)
  have b2 : decide (1024 < tn) = false := decide_eq_false (by omega)
  obtain ⟨Aq, cq, rfl⟩ := own_slice h.que
  obtain ⟨Al, cl, rfl⟩ := own_slice h.row
  obtain ⟨gl, rfl⟩ : ∃ g, Al = some ⟨g, 0, none⟩ := by
    rcases h.row.2 with ⟨h1, h2⟩ | ⟨g, cap, cur, h1, _⟩
    · simp at h1
      omega
    · simp at h1
      exact ⟨g, h1.1⟩
  have c1 := h.c1
  have H := Aside0.mk h
  have HPk := Aside0.mk hp
  have HSep := Aside0.mk hsep
  have HEB := Aside0.mk h.eb_ne
  clear h hp hsep
  unfold ptr at *
  go_enter Try.func20, Try.ntmps20
  go_wp2_with fail
  go_loopw [7, 23] (fun v7 v23 wr => ∃ (i : Nat) (f : F) (first : Bool), i ≤ d.q.length ∧ v7 = .bool first ∧ v23 = .int .i64 (i : Int) ∧ Aside0 (wr.heap[eb]? = some (.cells #[.slice (some ⟨gl, 0, none⟩) d.n cl, .slice Aq d.q.length cq] 47 (0, 0))) ∧ Aside0 (wr.ownsRow B 9 1 (.slice (some ⟨gl, 0, none⟩) d.n cl) d.n (lvF f d.n)) ∧ Aside0 (Full f) ∧ Aside0 (crashF picks tn i first f (d.q.drop i) = crashF picks tn 0 true d.la d.q) ∧ Aside0 (Fr w wr (fun k => Value.ownBlock (.slice (some ⟨gl, 0, none⟩) d.n cl) = some k))) (fun _ x _ => d.q.length - (intOf x).toNat)
  case atStart => exact ⟨0, d.la, true, by omega, rfl, rfl, ⟨H.out.dev⟩, ⟨H.out.row⟩, ⟨H.out.full⟩, ⟨rfl⟩, ⟨Fr.refl _ _⟩⟩
  case round =>
    obtain ⟨i, f, first, hi, rfl, rfl, HD, HR, HU, HE, HF⟩ := hrel
    by_cases hlt : i < d.q.length
    · obtain ⟨k1, k2⟩ := wv_at d.q i hlt
      obtain ⟨g, rfl⟩ : ∃ g, Aq = some ⟨g, 0, none⟩ := by
        rcases H.out.que.2 with ⟨h1, h2⟩ | ⟨g, cap, cur, h1, _⟩
        · simp at h1
          omega
        · simp at h1
          exact ⟨g, h1.1⟩
      have hgne : gl ≠ g := by
        have := HEB.out.2.2
        simp [Value.ownBlock] at this
        exact fun e => this e.symm
      have R3 : Aside0 (wr.ownsRow B 65 2 (.slice (some ⟨g, 0, none⟩) d.q.length cq) d.q.length (wv d.q)) := ⟨own_same H.out.que (fun k hk => HF.out.block k (own_lt H.out.que k hk) (fun e => by simp [Value.ownBlock] at hk e; omega))⟩
      have e0 := (R3.out.cellAt (i * 2) (by omega)).trans k1
      have e1 := (R3.out.cellAt (i * 2 + 1) (by omega)).trans k2
      have hwf := H.out.wf.2 _ (List.getElem_mem hlt)
      have HP2 := Aside0.mk (HPk.out.step (w' := wr) (fun ad e en => HF.out.block ad.block (HSep.out ad e en).2 (fun e2 => (HSep.out ad e en).1 (.inr (.inl e2)))))
      have s1 := crash_step1 picks tn i first f d.q hlt
      have s2 := crash_step2 picks tn i f d.q hlt
      have s3 := crash_step3 picks tn i f d.q hlt
      generalize hx : d.q[i] = x at e0 e1 hwf s1 s2
      obtain ⟨a, s⟩ := x
      have hwn := H.out.wf.1
      obtain ⟨an, rfl⟩ : ∃ n : Nat, a = n := ⟨a.toNat, by have := hwf.2.1; simp only at this; omega⟩
      have hsz : s.size / 128 ≤ 1024 := Nat.le_trans hwf.2.2.1 hwn
      have hin : (an : Int) ≤ (d.n : Int) - (s.size / 128 : Nat) := hwf.2.2.2
      have hss : s.size ≤ 1048576 := by have h1 : s.size % 128 = 0 := hwf.1.2; omega
      obtain ⟨m, hm⟩ : ∃ m : Nat, m = s.size / 128 := ⟨_, rfl⟩
      have HmI : Aside0 ((s.size : Int) / 128 = (m : Int)) := ⟨by omega⟩
      have HmN := Aside0.mk hm
      rw [← hm] at hsz hin
      have hmd : an + m ≤ d.n := by omega
      clear k1 k2 c1 hx hwf hm hin
      have P1 := Aside0.mk (blk_new wr (.cells #[.int .i64 an, .string s] 65))
      have B1 := Aside0.mk (below_alloc (Below.refl wr.heap.size wr) (.cells #[.int .i64 an, .string s] 65))
      have S1 := Aside0.mk s1
      have S2 := Aside0.mk s2
      have S3 := Aside0.mk s3
      clear s1 s2 s3
      go_upto_region 8 with fail
      generalize hW : wr.alloc (.cells #[.int .i64 an, .string s] 65) = W1 at P1 B1 ⊢
      clear hW e0 e1
      have HL := Aside0.mk (Nat.lt_of_lt_of_le (blk_lt H.out.dev) HF.out.size)
      have HLg := Aside0.mk (own_lt HR.out gl rfl)
      have D4 := Aside0.mk ((B1.out.block eb HL.out).trans HD.out)
      have R4 := Aside0.mk (own_same HR.out (fun k hk => B1.out.block k (own_lt HR.out k hk)))
      have F4 : Aside0 (Fr w W1 (fun k => Value.ownBlock (.slice (some ⟨gl, 0, none⟩) d.n cl) = some k)) := ⟨HF.out.trans (Fr.of_below B1.out (fun k => Value.ownBlock (.slice (some ⟨gl, 0, none⟩) d.n cl) = some k)) (fun _ h => .inl h)⟩
      have HP3 := Aside0.mk (HP2.out.step (w' := W1) (fun ad e en => B1.out.block ad.block (Nat.lt_of_lt_of_le (HSep.out ad e en).2 HF.out.size)))
      have p0 := (blk_cell P1.out 0).trans (Eq.refl (some (Value.int .i64 an)))
      have p1 := (blk_cell P1.out 1).trans (Eq.refl (some (Value.string s)))
      clear HP2 R3 HR HD HF
      go_cut [37] (fun v37 wc => v37 = .bool (decide (picks[i]? = some true)) ∧ wc = W1)
      case first =>
        by_cases h5 : i < picks.length
        · obtain ⟨ad, rfl, hc⟩ := HP3.out i h5
          have h5b : decide (i < picks.length) = true := decide_eq_true h5
          have hg5 : picks[i]? = some picks[i] := List.getElem?_eq_getElem h5
          generalize picks[i] = bb at hc hg5
          go_wp2_with fail
          go_meet
          case rel => exact ⟨by rw [hg5]; cases bb <;> rfl, rfl⟩
        · have h5b : decide (i < picks.length) = false := decide_eq_false h5
          go_wp2_with fail
          go_meet
          case rel => exact ⟨by rw [List.getElem?_eq_none (by omega)]; rfl, rfl⟩
      case rest =>
        obtain ⟨rfl, rfl⟩ := hcut
        go_upto_if 37 with fail
        go_cut [10, 7] (fun v10 v7 wd => ∃ (many : Nat) (fi : Bool), many ≤ 1024 ∧ v10 = .int .i64 (many : Int) ∧ v7 = .bool fi ∧ Aside0 (crashF picks tn i first f (d.q.drop i) = crashF picks tn (i + 1) fi (layW f (an, s) many) (d.q.drop (i + 1))) ∧ Below wc.heap.size wc wd)
        case first =>
          by_cases h6 : picks[i]? = some true
          · have h6b : decide (picks[i]? = some true) = true := decide_eq_true h6
            rw [h6b]
            have S7 := Aside0.mk (S1.out h6)
            have S8 : Aside0 (crashF picks tn i first f (d.q.drop i) = crashF picks tn (i + 1) first (layW f (an, s) m) (d.q.drop (i + 1))) := ⟨by
              rw [S7.out]
              have : layW f (an, s) 1024 = layW f (an, s) m := by
                unfold layW
                show layF f an s (min 1024 (s.size / 128)) = layF f an s (min m (s.size / 128))
                rw [← HmN.out, Nat.min_eq_right hsz, Nat.min_self]
              rw [this]⟩
            clear h6 h6b S1 S2 S3 S7
            go_wp2_with fail
            go_meet
            case rel => exact ⟨m, first, hsz, by rw [HmI.out], rfl, S8, Below.refl _ _⟩
          · have h6b : decide (picks[i]? = some true) = false := decide_eq_false h6
            rw [h6b]
            cases first with
            | true =>
              have S7 := Aside0.mk (S2.out h6)
              clear h6 h6b S1 S2 S3
              go_wp2_with fail
              go_meet
              case rel => exact ⟨tn, false, ht, rfl, rfl, S7, Below.refl _ _⟩
            | false =>
              have S7 := Aside0.mk (S3.out h6)
              have S8 : Aside0 (crashF picks tn i false f (d.q.drop i) = crashF picks tn (i + 1) false (layW f (an, s) 0) (d.q.drop (i + 1))) := ⟨by
                rw [S7.out]
                have : layW f (an, s) 0 = f := by unfold layW; rw [Nat.zero_min]; rfl
                rw [this]⟩
              clear h6 h6b S1 S2 S3 S7
              go_wp2_with fail
              go_meet
              case rel => exact ⟨0, false, by omega, rfl, rfl, S8, Below.refl _ _⟩
        case rest =>
          obtain ⟨many, fi, hmany, rfl, rfl, HE2, hbel⟩ := hcut
          have D5 := Aside0.mk ((hbel.block eb (blk_lt D4.out)).trans D4.out)
          have P5 := Aside0.mk ((hbel.block wr.heap.size (blk_lt P1.out)).trans P1.out)
          have R5 := Aside0.mk (own_same R4.out (fun k hk => hbel.block k (own_lt R4.out k hk)))
          have F5 : Aside0 (Fr w wc (fun k => Value.ownBlock (.slice (some ⟨gl, 0, none⟩) d.n cl) = some k)) := ⟨F4.out.trans (Fr.of_below hbel (fun k => Value.ownBlock (.slice (some ⟨gl, 0, none⟩) d.n cl) = some k)) (fun _ h => .inl h)⟩
          have HNE : Aside0 (eb ≠ gl ∧ wr.heap.size ≠ gl) := ⟨fun e => HEB.out.1 (by rw [e]; rfl), by have := HLg.out; omega⟩
          have HE3 := Aside0.mk (HE2.out.symm.trans HE.out)
          have HS5 := Aside0.mk hss
          clear hbel p0 p1 D4 P1 R4 F4 HP3 B1 S1 S2 S3 HE2 HE
          go_wp2_with fail
          generalize wr.heap.size = z at P5 HNE ⊢
          go_loopw [11] (fun v11 wq => ∃ j : Nat, j ≤ m ∧ j ≤ many ∧ v11 = .int .i64 (j : Int) ∧ Aside0 (wq.heap[eb]? = some (.cells #[.slice (some ⟨gl, 0, none⟩) d.n cl, .slice (some ⟨g, 0, none⟩) d.q.length cq] 47 (0, 0))) ∧ Aside0 (wq.heap[z]? = some (.cells #[.int .i64 an, .string s] 65 (0, 0))) ∧ Aside0 (wq.ownsRow B 9 1 (.slice (some ⟨gl, 0, none⟩) d.n cl) d.n (lvF (layF f an s j) d.n)) ∧ Aside0 (Full (layF f an s j)) ∧ Aside0 (Fr w wq (fun k => Value.ownBlock (.slice (some ⟨gl, 0, none⟩) d.n cl) = some k))) (fun x _ => many - (intOf x).toNat)
          case atStart => exact ⟨0, by omega, by omega, rfl, D5, P5, R5, HU, F5⟩
          case round =>
            clear D5 P5 R5 HU F5
            obtain ⟨j, hj1, hj2, rfl, HD, HP, HR, HU, HF⟩ := hrel
            have p0 := (blk_cell HP.out 0).trans (Eq.refl (some (Value.int .i64 an)))
            have p1 := (blk_cell HP.out 1).trans (Eq.refl (some (Value.string s)))
            by_cases g1 : j < many
            · have q1 : decide (j < many) = true := decide_eq_true g1
              by_cases g2 : j < m
              · have q2 : decide ((j : Int) < (s.size : Int) / 128) = true := decide_eq_true (by rw [HmI.out]; omega)
                obtain ⟨k, hk⟩ : ∃ k : Nat, k = an + j := ⟨_, rfl⟩
                obtain ⟨x, hx⟩ : ∃ x : Nat, x = j * 128 := ⟨_, rfl⟩
                obtain ⟨y, hy⟩ : ∃ y : Nat, y = (j + 1) * 128 := ⟨_, rfl⟩
                have x1 : (j : Int) * 128 = (x : Int) := by omega
                have y1 : ((j : Int) + 1) * 128 = (y : Int) := by omega
                have w0 : IntKind.i64.wrap ((an : Int) + (j : Int)) = (k : Int) := by rw [hk]; exact IntWalk.i64_in _ (by have := H.out.wf.1; omega)
                have w2 : IntKind.i64.wrap ((j : Int) * 128) = (x : Int) := by rw [x1]; exact IntWalk.i64_in _ (by omega)
                have w3 : IntKind.i64.wrap ((j : Int) + 1) = (j : Int) + 1 := IntWalk.i64_in _ (by omega)
                have w4 : IntKind.i64.wrap (((j : Int) + 1) * 128) = (y : Int) := by rw [y1]; exact IntWalk.i64_in _ (by omega)
                have hb : s.extract x y = blk s j := by rw [hx, hy]; rfl
                have l1 : (x : Int) ≤ (y : Int) := by omega
                have l2 : (y : Int) ≤ (s.size : Int) := by have := HmN.out; omega
                have kd : k < d.n := by omega
                have HK : Aside0 ((k : Int) = (an : Int) + (j : Int) ∧ (blk s j).size = 128) := ⟨by omega, blk_size s j (by omega)⟩
                have c0 := (blk_cell HD.out 0).trans (Eq.refl (some (Value.slice (some ⟨gl, 0, none⟩) d.n cl)))
                have fz := HR.out.frozenAt k
                have cz : wr.cell? ⟨gl, k, none⟩ = some (.string ((layF f an s j (k : Nat)).getD ⟨#[]⟩)) := (HR.out.cellAt k (by omega)).trans (by simp [lvF, kd])
                have N1 := Aside0.mk (HR.out.drew.stored k (.string (blk s j)))
                clear x1 y1 hx hy hk
                go_wp2_with fail
                go_region
                all_goals
                  go_wp2_with fail
                  go_roundw
                  case rel =>
                    refine ⟨j + 1, by omega, by omega, by simp, ⟨(Below.heap_setCell wr.drew ⟨gl, k, none⟩ _ eb HNE.out.1).trans HD.out⟩, ⟨(Below.heap_setCell wr.drew ⟨gl, k, none⟩ _ z HNE.out.2).trans HP.out⟩, ⟨?_⟩, ⟨?_⟩, ⟨?_⟩⟩
                    · have h1 := N1.out.1
                      rw [lvF_put _ _ _ _ kd, HK.out.1] at h1
                      exact h1
                    · exact full_put HU.out _ _ HK.out.2
                    · exact HF.out.trans ⟨N1.out.2.os, N1.out.2.tape, N1.out.2.output, N1.out.2.size, fun k' hk' hn => N1.out.2.block k' hk' (by simpa using fun e => hn e)⟩ (f := fun k => Value.ownBlock (.slice (some ⟨gl, 0, none⟩) d.n cl) = some k) (g := fun k' => k' = gl) (fun k' e => .inl (by rw [e]; rfl))
                  case measure => simp [intOf]; omega
              · have q2 : decide ((j : Int) < (s.size : Int) / 128) = false := decide_eq_false (by rw [HmI.out]; omega)
                obtain rfl : j = m := by omega
                have HLW : Aside0 (layW f (an, s) many = layF f an s j) := ⟨by
                  unfold layW
                  show layF f an s (min many (s.size / 128)) = _
                  rw [← HmN.out, Nat.min_eq_right (by omega)]⟩
                go_wp2_with fail
                go_roundw
                case rel => exact ⟨i + 1, layF f an s j, fi, by omega, rfl, by simp, HD, HR, HU, ⟨by rw [← HLW.out]; exact HE3.out⟩, HF⟩
                case measure => simp [intOf]; omega
            · have q1 : decide (j < many) = false := decide_eq_false g1
              obtain rfl : j = many := by omega
              have HLW : Aside0 (layW f (an, s) j = layF f an s j) := ⟨by
                unfold layW
                show layF f an s (min j (s.size / 128)) = _
                rw [← HmN.out, Nat.min_eq_left hj1]⟩
              go_wp2_with fail
              go_roundw
              case rel => exact ⟨i + 1, layF f an s j, fi, by omega, rfl, by simp, HD, HR, HU, ⟨by rw [← HLW.out]; exact HE3.out⟩, HF⟩
              case measure => simp [intOf]; omega
    · obtain rfl : i = d.q.length := by omega
      have hE := HE.out
      rw [List.drop_length, crashF] at hE
      have c1' := (blk_cell HD.out 1).trans (Eq.refl (some (Value.slice Aq d.q.length cq)))
      have f1' := blk_frozen HD.out 1
      have R := Aside0.mk (ref_crash_end H.out HD.out HR.out HU.out HF.out f)
      have HE2 := Aside0.mk hE
      clear hE
      go_wp2_with fail
      go_ret
      rw [← HE2.out]
      exact ⟨_, _, rfl, R.out.1, R.out.2.1, R.out.2.2⟩
theorem ref_crash (h : RefIs B w eb v1 v2 d) (hn : 1 ≤ d.n) (hB : B ≤ w.heap.size) (hql : d.q.length ≤ 1000000) (hp : Picks w A picks) (hpl : picks.length ≤ 140737488355328) (hsep : ∀ ad, A = some ad → picks ≠ [] → ¬ fr eb v1 v2 ad.block ∧ ad.block < w.heap.size) :
    Calls Try.prog 20 #[ptr eb, .slice A picks.length c, .int .i64 torn] w (RefPost B eb v1 v2 w (dCrash d picks torn).1 (.int .i64 (dCrash d picks torn).2)) := by
  have same : ∀ {e : Ending} {w' : World}, e = .returned (.int .i64 1) ∧ w' = w → RefPost B eb v1 v2 w d (.int .i64 1) e w' := by
    rintro e w' ⟨rfl, rfl⟩
    exact ⟨v1, v2, rfl, h, Fr.refl _ _, fun _ hk => .inl hk⟩
  unfold dCrash
  by_cases h1 : torn < 0
  · rw [if_pos h1]
    exact (ref_crash_arg _ _ w (.inl h1)).mono fun e w' hh => same hh
  · rw [if_neg h1]
    by_cases h2 : 1024 < torn
    · rw [if_pos h2]
      exact (ref_crash_arg _ _ w (.inr h2)).mono fun e w' hh => same hh
    · rw [if_neg h2]
      obtain ⟨tn, rfl⟩ : ∃ tn : Nat, torn = tn := ⟨torn.toNat, by omega⟩
      exact ref_crash_ok tn h hn hB hql (by omega) hp hpl hsep
end
end Go.Proofs.Ytobhnababkpcbaa.Dev
