/- What a head says: headed. -/
import Derived.Test.YtlmnfnkjbgnklaaTxnE
import Derived.Test.YtlmnfnkjbgnklaaReadLaws
set_option linter.unusedVariables false
set_option linter.unusedSimpArgs false
namespace Go.Proofs.Ytlmnfnkjbgnklaa.TxnS
open Go.RowKit Go.Proofs.YtlmnfnkjbgnklaaW.PrintWords Go.Proofs.Ytlmnfnkjbgnklaa.Spec Go.Proofs.Ytlmnfnkjbgnklaa.C
def zb : ByteArray := strOfNums (List.replicate 128 0)
def tee : ByteArray := ⟨#[84]⟩
def rdL (r : ByteArray) (e : Int) : Nat → List Ch × ByteArray × Int
  | 0 => ([], r, e)
  | k + 1 => ((rdL r e k).1 ++ [((readS (rdL r e k).2.1 (rdL r e k).2.2 2).1, zb)], (readS (rdL r e k).2.1 (rdL r e k).2.2 2).2.2.1, (readS (rdL r e k).2.1 (rdL r e k).2.2 2).2.2.2)
theorem rdL_length (r : ByteArray) (e : Int) : ∀ k, (rdL r e k).1.length = k
  | 0 => rfl
  | k + 1 => by rw [rdL, List.length_append, rdL_length r e k]; rfl
theorem readS_nn (s : ByteArray) (e : Int) (n : Nat) : 0 ≤ (readS s e n).1 := by
  unfold readS
  split
  · exact Int.le_refl _
  · split
    · exact Int.le_refl _
    · split
      · exact Int.le_refl _
      · exact Int.natCast_nonneg _
theorem readS_lt (s : ByteArray) (e : Int) (n : Nat) (hn : n ≤ 2) : (readS s e n).1 < 2 ^ (8 * n) := by
  have hp : (0 : Int) < 2 ^ (8 * n) := by
    have : n = 0 ∨ n = 1 ∨ n = 2 := by omega
    rcases this with rfl | rfl | rfl <;> decide
  unfold readS
  split
  · exact hp
  · split
    · exact hp
    · split
      · exact hp
      · have h := num_lt (s.data.toList.take n)
        have h2 : (s.data.toList.take n).length ≤ n := by rw [List.length_take]; omega
        have h3 : num (s.data.toList.take n) < 2 ^ (8 * n) := Nat.lt_of_lt_of_le h (Nat.pow_le_pow_right (by omega) (by omega))
        show ((num (s.data.toList.take n) : Nat) : Int) < 2 ^ (8 * n)
        exact_mod_cast h3
def headR (r : ByteArray) : Int × List Ch × Bool :=
  let a := readS r 0 8
  let m := readS a.2.2.1 a.2.2.2 1
  let q := rdL m.2.2.1 m.2.2.2 m.1.toNat
  let f := readS q.2.1 q.2.2 4
  (a.1, q.1, decide (endS f.2.2.1 f.2.2.2 = 0 ∧ 1 ≤ a.1 ∧ a.1 ≤ 1099511627776 ∧ right q.1))
def headedS (b : ByteArray) : Int × List Ch × Bool :=
  if (unblockS b).2 ≠ 0 ∨ (cutS (unblockS b).1 tee).2 = false then (0, [], false) else headR (cutS (unblockS b).1 tee).1
end Go.Proofs.Ytlmnfnkjbgnklaa.TxnS
namespace Go.Proofs.Ytlmnfnkjbgnklaa.Txn
open Go.RowKit Go.Proofs.YtlmnfnkjbgnklaaW.PrintWords Go.Proofs.YtlmnfnkjbgnklaaW.PrintLast Go.Proofs.YtlmnfnkjbgnklaaW.PrintMore Go.Proofs.Ytlmnfnkjbgnklaa.TxnS Go.Proofs.Ytlmnfnkjbgnklaa.Spec Go.Proofs.Ytlmnfnkjbgnklaa.C
theorem cut_calls (s p : ByteArray) (w : World) :
    Calls Try.prog 55 #[.string s, .string p] w fun e w' => e = .returned (.tuple #[.string (cutS s p).1, .bool (cutS s p).2]) ∧ Drawn0 w w' :=
  Ps.strings_CutPrefix.calls s p _ _ w (by rw [cut_f])
theorem infoC : (Try.prog.info? 69).map (fun i => (i.zero, i.size, i.bytes)) = some (some (.agg #[.int .i64 0, .string ⟨#[]⟩]), 2, 24) := by kernel_rfl
theorem infoU : (Try.prog.info? 5).map (fun i => (i.zero, i.size, i.bytes)) = some (some (.int .u8 0), 1, 1) := by kernel_rfl
theorem nums_get (k : IntKind) (l : List Int) (j : Nat) (h : j < l.length) : (nums k l).toArray[j]? = some (.int k (l.getD j 0)) := by
  simp [nums, List.getElem?_eq_getElem h]
def zcells : Obj := .cells (nums .u8 (List.replicate 128 0)).toArray 5
theorem zeros_alloc (W : World) : (convert 100 9 (.slice (some ⟨W.heap.size, 0, none⟩) 128 128)).run Try.prog (W.alloc zcells) = .ok (.string zb) (W.alloc zcells) := by
  refine run_convert_bytes_arg (P := Try.prog) _ 100 5 Try.underlying100 Try.underlying5 W.heap.size 0 128 128 (List.replicate 128 0) List.length_replicate (fun j hj => ?_) 9 Try.underlying9
  rw [Nat.zero_add, show (W.alloc zcells).cell? ⟨W.heap.size, j, none⟩ = (nums .u8 (List.replicate 128 0)).toArray[j]? from blk_cell (blk_new W _) j, nums_get .u8 _ j (by rw [List.length_replicate]; exact hj)]
theorem zeros_make : ∀ W : World, (Instr.makeSlice 100 (.int .i64 128) (.int .i64 128)).run Try.prog W = .ok (.slice (some ⟨W.heap.size, 0, none⟩) 128 128) (W.alloc zcells) := by
  have km := print_make (P := Try.prog) 100 5 .u8 1 Try.underlying100 infoU (by decide) 128 (by omega)
  have hm : madeCells #[Value.int .u8 0] 128 = (nums .u8 (List.replicate 128 0)).toArray := by kernel_rfl
  rw [hm] at km
  exact km
theorem reader_ne {w0 w : World} {g : Nat} {s : ByteArray} {e : Int} (h : Ps.IsS119 w0 w g s e) {base n : Nat} {v : Value} {xs : List Value} (ho : w.ownsRow base 69 2 v n xs) : v.ownBlock ≠ some g := by
  intro hk
  rcases ho.2 with ⟨rfl, _⟩ | ⟨g', cap', cur', rfl, _, hg', _⟩
  · simp [Value.ownBlock] at hk
  · have e3 : g' = g := by simpa [Value.ownBlock] using hk
    subst e3
    have := h.1
    rw [hg'] at this
    simp at this
set_option maxHeartbeats 1600000 in
set_option maxRecDepth 100000 in
theorem headed_no (b : ByteArray) (w : World) (hs : b.size ≤ 1125899906842624) (h : (unblockS b).2 ≠ 0 ∨ (cutS (unblockS b).1 tee).2 = false) :
    Calls Try.prog 59 #[.string b] w fun e w' => e = .returned (.tuple #[.int .i64 0, .slice none 0 0, .bool false]) ∧ Below w.heap.size w w' := by
  have hk := sum_Unblock.calls b (unblockS b).1 (unblockS b).2
  have hk2 := cut_calls (unblockS b).1 tee
  have HU := Aside0.mk (fun W => hk W (lim_ok _ hs))
  obtain ⟨t, e0, ht⟩ : ∃ t e0, unblockS b = (t, e0) := ⟨_, _, rfl⟩
  rw [ht] at HU hk2 h
  obtain ⟨r, ok, hr⟩ : ∃ r ok, cutS t tee = (r, ok) := ⟨_, _, rfl⟩
  simp only [hr] at hk2 h
  unfold tee at hk2
  have HC := Aside0.mk hk2
  have hcase : (e0 != 0) = true ∨ (e0 = 0 ∧ ok = false) := by
    by_cases he : e0 = 0
    · right
      rcases h with h | h
      · exact absurd he h
      · exact ⟨he, h⟩
    · left
      simp [he]
  clear hk hk2 ht hr hs h
  rcases hcase with he | ⟨rfl, rfl⟩
  all_goals
    go_enter Try.func59, Try.ntmps59
    go_wp2_with fail
    refine (HU.out _).mono ?_
    rintro e w1 ⟨rfl, hB⟩
    have HB := Aside0.mk hB
    clear hB
    go_wp2_with fail
    refine (HC.out _).mono ?_
    rintro e w2 ⟨rfl, hD⟩
    have HB3 := Aside0.mk (HB.out.trans (hD.below.mono HB.out.size))
    clear hD HB
    go_wp2_with fail
    refine bodyPost_ret (v := .tuple #[.int .i64 0, .slice none 0 0, .bool false]) (by simp [results, Try.results59, go_sem]) rfl ⟨rfl, ?_⟩
    exact HB3.out
set_option maxHeartbeats 3200000 in
set_option maxRecDepth 100000 in
theorem headed_yes (b t r : ByteArray) (w : World) (hs : b.size ≤ 1125899906842624) (ht : unblockS b = (t, 0)) (hr : cutS t tee = (r, true)) :
    Calls Try.prog 59 #[.string b] w fun e w' => ∃ v, e = .returned (.tuple #[.int .i64 (headR r).1, v, .bool (headR r).2.2]) ∧ w'.ownsRow w.heap.size 69 2 v (headR r).2.1.length (cv (headR r).2.1) ∧ Below w.heap.size w w' := by
  have hk := sum_Unblock.calls b (unblockS b).1 (unblockS b).2
  have hk2 := cut_calls t tee
  have HU := Aside0.mk (fun W => hk W (lim_ok _ hs))
  rw [ht] at HU
  rw [hr] at hk2
  unfold tee at hk2
  have HC := Aside0.mk hk2
  obtain ⟨a, ha⟩ : ∃ a, a = readS r 0 8 := ⟨_, rfl⟩
  obtain ⟨m, hm⟩ : ∃ m, m = readS a.2.2.1 a.2.2.2 1 := ⟨_, rfl⟩
  obtain ⟨n, hn⟩ : ∃ n : Nat, n = m.1.toNat := ⟨_, rfl⟩
  have hm0 : 0 ≤ m.1 := by rw [hm]; exact readS_nn _ _ _
  have hm1 : m.1 < 256 := by rw [hm]; exact readS_lt _ _ 1 (by omega)
  have hmn : m.1 = (n : Int) := by omega
  have hn2 : n < 256 := by omega
  have HRes : Aside0 (headR r = (a.1, (rdL m.2.2.1 m.2.2.2 n).1, decide (endS (readS (rdL m.2.2.1 m.2.2.2 n).2.1 (rdL m.2.2.1 m.2.2.2 n).2.2 4).2.2.1 (readS (rdL m.2.2.1 m.2.2.2 n).2.1 (rdL m.2.2.1 m.2.2.2 n).2.2 4).2.2.2 = 0 ∧ 1 ≤ a.1 ∧ a.1 ≤ 1099511627776 ∧ right (rdL m.2.2.1 m.2.2.2 n).1))) := ⟨by rw [hn, hm, ha]; rfl⟩
  have HA := Aside0.mk ha
  have HM := Aside0.mk hm
  have HMN := Aside0.mk hmn
  clear hk hk2 ht hr hs ha hm hn hm0 hm1 hmn
  go_enter Try.func59, Try.ntmps59
  go_wp2_with fail
  refine (HU.out _).mono ?_
  rintro e w1 ⟨rfl, hB⟩
  have HB := Aside0.mk hB
  clear hB
  go_wp2_with fail
  refine (HC.out _).mono ?_
  rintro e w2 ⟨rfl, hD⟩
  have HB2 := Aside0.mk (HB.out.trans (hD.below.mono HB.out.size))
  clear hD HB
  go_wp2_with fail
  refine (Ps.codec_Of.calls r r 0 w _ (by first | exact HB2.out | exact below_drew1 HB2.out) rfl).mono ?_
  rintro e w3 ⟨g, rfl, hI, hB, _⟩
  have HI3 := Aside0.mk hI
  have HB3 := Aside0.mk hB
  clear hI hB HB2
  go_wp2_with fail
  refine (read_calls g r 0 8 (by omega) w w3 HI3.out HB3.out).mono ?_
  rintro e w4 ⟨rfl, hI, hB, _⟩
  rw [← HA.out] at hI ⊢
  have HI4 := Aside0.mk hI
  have HB4 := Aside0.mk hB
  clear hI hB HB3 HI3 HA
  go_wp2_with fail
  refine (read_calls g a.2.2.1 a.2.2.2 1 (by omega) w w4 HI4.out HB4.out).mono ?_
  rintro e w5 ⟨rfl, hI, hB, _⟩
  rw [← HM.out] at hI ⊢
  rw [HMN.out]
  have HI5 := Aside0.mk hI
  have HB5 := Aside0.mk hB
  clear hI hB HB4 HI4 HM HMN
  obtain ⟨r1, hr1⟩ : ∃ x, x = m.2.2.1 := ⟨_, rfl⟩
  obtain ⟨e1, he1⟩ : ∃ x, x = m.2.2.2 := ⟨_, rfl⟩
  rw [← hr1, ← he1] at HRes HI5
  clear hr1 he1
  go_wp2_with fail
  go_loopw [14, 46] (fun v14 v46 wr => ∃ i : Nat, i ≤ n ∧ v46 = .int .i64 (i : Int) ∧ Aside0 (wr.ownsRow w.heap.size 69 2 v14 i (cv (rdL r1 e1 i).1)) ∧ Aside0 (Ps.IsS119 w wr g (rdL r1 e1 i).2.1 (rdL r1 e1 i).2.2) ∧ Aside0 (Below w.heap.size w wr)) (fun _ x _ => n - (intOf x).toNat)
  case atStart => exact ⟨0, by omega, rfl, ⟨own_nil _ _ _ _⟩, HI5, HB5⟩
  case round =>
    clear HI5 HB5
    obtain ⟨i, hi, rfl, HR, HI, HB⟩ := hrel
    by_cases hlt : i < n
    · have hltb : decide (i < n) = true := decide_eq_true hlt
      have HC2 := Aside0.mk (read_calls g (rdL r1 e1 i).2.1 (rdL r1 e1 i).2.2 2 (by omega) w wr HI.out HB.out)
      have HN := Aside0.mk (reader_ne HI.out HR.out)
      have hcv : cv (rdL r1 e1 (i + 1)).1 = cv (rdL r1 e1 i).1 ++ [.int .i64 (readS (rdL r1 e1 i).2.1 (rdL r1 e1 i).2.2 2).1, .string zb] := by rw [rdL, cv_append]; rfl
      have hst : (rdL r1 e1 (i + 1)).2 = ((readS (rdL r1 e1 i).2.1 (rdL r1 e1 i).2.2 2).2.2.1, (readS (rdL r1 e1 i).2.1 (rdL r1 e1 i).2.2 2).2.2.2) := rfl
      generalize readS (rdL r1 e1 i).2.1 (rdL r1 e1 i).2.2 2 = x at HC2 hcv hst
      obtain ⟨x1, x2, x3, x4⟩ := x
      dsimp only at hcv hst HC2
      have HCv := Aside0.mk hcv
      have HSt := Aside0.mk hst
      clear hcv hst
      go_wp2_with fail
      refine HC2.out.mono ?_
      rintro e w6 ⟨rfl, hI, hB, hK⟩
      have HI6 := Aside0.mk hI
      have HB6 := Aside0.mk hB
      have R6 := Aside0.mk (own_same (w' := w6) HR.out (fun k hk => hK.2 k (own_lt HR.out k hk) (fun e => HN.out (e ▸ hk)) (by simp)))
      clear hI hB hK HC2 HR HI HB
      have km := zeros_make
      have kc := zeros_alloc
      have R7 := Aside0.mk (pw_own_below R6.out (below_alloc (Below.refl w6.heap.size w6) zcells))
      have B7 := Aside0.mk (below_alloc HB6.out zcells)
      have I7 := Aside0.mk (HI6.out.alloc zcells)
      have hml : (i + 1) * 24 ≤ 140737488355328 := by omega
      go_wp2_with (at_builtin; refine print_append_cells w.heap.size rfl (.tmp 53) (.tmp 58) 31 69 (.agg #[.int .i64 0, .string ⟨#[]⟩]) 2 24 rfl Try.underlying31 infoC rfl (by decide) (by decide) _ _ _ [.int .i64 x1, .string zb] rfl (by rw [show (w6.alloc zcells).heap.size = w6.heap.size + 1 by simp]; rfl) rfl (by intro u hu; simp at hu; rcases hu with rfl | rfl <;> rfl) R7.out B7.out B7.out.size hml ?_; intro v8 w8 hr8 hb8 hg8 _; have R8 := Aside0.mk hr8; have B8 := Aside0.mk hb8; have G8 := Aside0.mk hg8; clear hr8 hb8 hg8)
      go_roundw
      case rel =>
        refine ⟨i + 1, by omega, by simp, ⟨by rw [HCv.out]; exact R8.out⟩, ⟨?_⟩, B8⟩
        rw [HSt.out]
        exact I7.out.grown G8.out (reader_ne I7.out R7.out).symm
      case measure => simp [intOf]; omega
    · obtain rfl : i = n := by omega
      have hlen := rdL_length r1 e1 i
      generalize rdL r1 e1 i = q at HR HI HRes hlen
      obtain ⟨ql, qr, qe⟩ := q
      dsimp only at HR HI HRes hlen
      subst hlen
      obtain ⟨Aq, cq, rfl⟩ := own_slice HR.out
      have HF := Aside0.mk (read_calls g qr qe 4 (by omega) w wr HI.out HB.out)
      generalize readS qr qe 4 = f at HF HRes
      obtain ⟨f1, f2, f3, f4⟩ := f
      dsimp only at HF HRes
      go_wp2_with fail
      refine HF.out.mono ?_
      rintro e w6 ⟨rfl, hI, hB, hK⟩
      have HI6 := Aside0.mk hI
      have HB6 := Aside0.mk hB
      have HN := Aside0.mk (reader_ne HI.out HR.out)
      have R6 := Aside0.mk (own_same (w' := w6) HR.out (fun k hk => hK.2 k (own_lt HR.out k hk) (fun e => HN.out (e ▸ hk)) (by simp)))
      clear hI hB hK HF HR HI HB HN
      have HE := Aside0.mk (end_calls g f3 f4 w w6 HI6.out HB6.out)
      have HE' : Aside0 (∀ w7, KeepBut w6 w7 g none → w7.ownsRow w.heap.size 69 2 (.slice Aq ql.length cq) ql.length (cv ql)) := ⟨fun w7 hK => own_same R6.out (fun k hk => hK.2 k (own_lt R6.out k hk) (fun e => (reader_ne HI6.out R6.out) (e ▸ hk)) (by simp))⟩
      generalize endS f3 f4 = en at HE HRes
      clear HI6 HB6 R6
      by_cases g1 : en = 0
      · subst g1
        by_cases g2 : 1 ≤ a.1
        · have q2 : decide (a.1 ≥ 1) = true := decide_eq_true g2
          by_cases g3 : a.1 ≤ 1099511627776
          · have q3 : decide (a.1 ≤ 1099511627776) = true := decide_eq_true g3
            have HRe : Aside0 (headR r = (a.1, ql, chk ql == 0)) := ⟨by
              rw [HRes.out]
              congr 2
              unfold chk
              by_cases hr : right ql
              · rw [if_pos hr, decide_eq_true ⟨rfl, g2, g3, hr⟩]; rfl
              · rw [if_neg hr, decide_eq_false (fun hh => hr hh.2.2.2)]; rfl⟩
            clear g2 g3
            go_wp2_with fail
            refine HE.out.mono ?_
            rintro e w7 ⟨rfl, _, hB, hK⟩
            have R7 := Aside0.mk (HE'.out w7 hK)
            have B7 := Aside0.mk hB
            clear hB hK HE HE'
            have HCk := Aside0.mk (check_calls ql Aq cq w7 (own_chs R7.out rfl) (by omega))
            generalize chk ql = ck at HCk HRe
            go_wp2_with fail
            refine HCk.out.mono ?_
            rintro e w8 ⟨rfl, hB⟩
            have R8 := Aside0.mk (pw_own_below R7.out hB)
            have B8 := Aside0.mk (B7.out.trans (hB.mono B7.out.size))
            clear hB
            go_wp2_with fail
            refine bodyPost_ret (v := .tuple #[.int .i64 a.1, .slice Aq ql.length cq, .bool (ck == 0)]) (by simp [results, Try.results59, go_sem]) rfl ⟨.slice Aq ql.length cq, ?_, ?_, B8.out⟩
            · rw [HRe.out]
            · rw [HRe.out]; exact R8.out
          · have q3 : decide (a.1 ≤ 1099511627776) = false := decide_eq_false g3
            have HRe : Aside0 (headR r = (a.1, ql, false)) := ⟨by rw [HRes.out, decide_eq_false (fun hh => g3 hh.2.2.1)]⟩
            clear g2 g3
            go_wp2_with fail
            refine HE.out.mono ?_
            rintro e w7 ⟨rfl, _, hB, hK⟩
            have R7 := Aside0.mk (HE'.out w7 hK)
            have B7 := Aside0.mk hB
            clear hB hK HE HE'
            go_wp2_with fail
            refine bodyPost_ret (v := .tuple #[.int .i64 a.1, .slice Aq ql.length cq, .bool false]) (by simp [results, Try.results59, go_sem]) rfl ⟨.slice Aq ql.length cq, ?_, ?_, B7.out⟩
            · rw [HRe.out]
            · rw [HRe.out]; exact R7.out
        · have q2 : decide (a.1 ≥ 1) = false := decide_eq_false g2
          have HRe : Aside0 (headR r = (a.1, ql, false)) := ⟨by rw [HRes.out, decide_eq_false (fun hh => g2 hh.2.1)]⟩
          clear g2
          go_wp2_with fail
          refine HE.out.mono ?_
          rintro e w7 ⟨rfl, _, hB, hK⟩
          have R7 := Aside0.mk (HE'.out w7 hK)
          have B7 := Aside0.mk hB
          clear hB hK HE HE'
          go_wp2_with fail
          refine bodyPost_ret (v := .tuple #[.int .i64 a.1, .slice Aq ql.length cq, .bool false]) (by simp [results, Try.results59, go_sem]) rfl ⟨.slice Aq ql.length cq, ?_, ?_, B7.out⟩
          · rw [HRe.out]
          · rw [HRe.out]; exact R7.out
      · have q1 : (en == 0) = false := by simp [g1]
        have HRe : Aside0 (headR r = (a.1, ql, false)) := ⟨by rw [HRes.out, decide_eq_false (fun hh => g1 hh.1)]⟩
        clear g1
        go_wp2_with fail
        refine HE.out.mono ?_
        rintro e w7 ⟨rfl, _, hB, hK⟩
        have R7 := Aside0.mk (HE'.out w7 hK)
        have B7 := Aside0.mk hB
        clear hB hK HE HE'
        go_wp2_with fail
        refine bodyPost_ret (v := .tuple #[.int .i64 a.1, .slice Aq ql.length cq, .bool false]) (by simp [results, Try.results59, go_sem]) rfl ⟨.slice Aq ql.length cq, ?_, ?_, B7.out⟩
        · rw [HRe.out]
        · rw [HRe.out]; exact R7.out
theorem headed_calls (b : ByteArray) (w : World) (hs : b.size ≤ 1125899906842624) :
    Calls Try.prog 59 #[.string b] w fun e w' => ∃ v, e = .returned (.tuple #[.int .i64 (headedS b).1, v, .bool (headedS b).2.2]) ∧ w'.ownsRow w.heap.size 69 2 v (headedS b).2.1.length (cv (headedS b).2.1) ∧ Below w.heap.size w w' := by
  unfold headedS
  by_cases h : (unblockS b).2 ≠ 0 ∨ (cutS (unblockS b).1 tee).2 = false
  · rw [if_pos h]
    refine (headed_no b w hs h).mono ?_
    rintro e w' ⟨rfl, hB⟩
    exact ⟨_, rfl, own_nil _ _ _ _, hB⟩
  · rw [if_neg h]
    have h1 : (unblockS b).2 = 0 := Decidable.not_not.1 (fun hh => h (.inl hh))
    have h2 : (cutS (unblockS b).1 tee).2 = true := by
      cases hc : (cutS (unblockS b).1 tee).2 with
      | true => rfl
      | false => exact absurd (.inr hc) h
    exact headed_yes b _ _ w hs (Prod.ext rfl h1) (Prod.ext rfl h2)
end Go.Proofs.Ytlmnfnkjbgnklaa.Txn
