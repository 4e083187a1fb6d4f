/- Decode. A transaction is read as it was written: plain laws. -/
import Derived.Test.YtlmnfnkjbgnklaaTxnR
import Derived.Deep.RegionHeld3
import Derived.Test.YtlmnfnkjbgnklaaSumC
section
/- Decode. -/
set_option linter.unusedVariables false
set_option linter.unusedSimpArgs false
namespace Go.Proofs.Ytlmnfnkjbgnklaa.TxnS
open Go.RowKit Go.Proofs.YtlmnfnkjbgnklaaW.PrintWords Go.Proofs.Ytlmnfnkjbgnklaa.Spec Go.Proofs.Ytlmnfnkjbgnklaa.C
def setK (bs : List ByteArray) (l : List Ch) : Nat → List Ch
  | 0 => l
  | i + 1 => (setK bs l i).modify i fun c => (c.1, (bs[i + 1]?).getD ⟨#[]⟩)
theorem setK_length (bs : List ByteArray) (l : List Ch) : ∀ i, (setK bs l i).length = l.length
  | 0 => rfl
  | i + 1 => by rw [setK, List.length_modify, setK_length bs l i]
theorem setK_get (bs : List ByteArray) (l : List Ch) : ∀ i j, (setK bs l i)[j]? = if j < i then (l[j]?).map (fun c => (c.1, (bs[j + 1]?).getD ⟨#[]⟩)) else l[j]?
  | 0, j => by rw [setK, if_neg (by omega)]
  | i + 1, j => by
    rw [setK, List.getElem?_modify, setK_get bs l i j]
    by_cases e : i = j
    · subst e
      rw [if_neg (by omega), if_pos (by omega)]
      simp
    · simp only [if_neg e]
      by_cases h : j < i
      · rw [if_pos h, if_pos (by omega)]; cases l[j]? <;> rfl
      · rw [if_neg h, if_neg (by omega)]; cases l[j]? <;> rfl
theorem cv_modify (s : ByteArray) : ∀ (l : List Ch) (i : Nat), (cv l).set (i * 2 + 1) (.string s) = cv (l.modify i fun c => (c.1, s))
  | [], i => by simp [cv]
  | c :: l, 0 => by simp [cv, List.modify]
  | c :: l, i + 1 => by
    have ih := cv_modify s l i
    have e1 : cv (c :: l) = .int .i64 c.1 :: .string c.2 :: cv l := rfl
    have e2 : (c :: l).modify (i + 1) (fun c => (c.1, s)) = c :: l.modify i (fun c => (c.1, s)) := by simp
    have e3 : cv (c :: l.modify i (fun c => (c.1, s))) = .int .i64 c.1 :: .string c.2 :: cv (l.modify i (fun c => (c.1, s))) := rfl
    rw [e1, e2, e3, show (i + 1) * 2 + 1 = i * 2 + 1 + 1 + 1 by omega, List.set_cons_succ, List.set_cons_succ, ih]
def newL (bs : List ByteArray) (l : List Ch) : List Ch := setK bs l l.length
def decS (bs : List ByteArray) : Int × List Ch × Int × Int :=
  match bs with
  | [] => (0, [], 0, 20)
  | b :: r =>
    if (headedS b).2.2 = false then (0, [], 0, 4)
    else if (b :: r).length < (headedS b).2.1.length + 1 then (0, [], 0, 20)
    else if ¬ right (newL (b :: r) (headedS b).2.1) ∨ b ≠ headS (headedS b).1 (newL (b :: r) (headedS b).2.1) then (0, [], 0, 4)
    else ((headedS b).1, newL (b :: r) (headedS b).2.1, (headedS b).2.1.length + 1, 0)
theorem headedS_ok {b : ByteArray} (h : (headedS b).2.2 = true) : 1 ≤ (headedS b).1 ∧ (headedS b).1 ≤ 1099511627776 ∧ right (headedS b).2.1 := by
  unfold headedS at h ⊢
  split
  · rename_i hh
    rw [if_pos hh] at h
    cases h
  · rename_i hh
    rw [if_neg hh] at h
    have := of_decide_eq_true h
    exact ⟨this.2.1, this.2.2.1, this.2.2.2⟩
end Go.Proofs.Ytlmnfnkjbgnklaa.TxnS
namespace Go.Proofs.Ytlmnfnkjbgnklaa.Txn
open Go.RowKit Go.Proofs.YtlmnfnkjbgnklaaW.PrintWords Go.Proofs.YtlmnfnkjbgnklaaW.PrintLast Go.Proofs.YtlmnfnkjbgnklaaW.PrintMore Go.Proofs.Ytlmnfnkjbgnklaa.TxnS Go.Proofs.Ytlmnfnkjbgnklaa.Spec Go.Proofs.Ytlmnfnkjbgnklaa.C
def Strs (w : World) (A : Option Addr) (l : List ByteArray) : Prop := ∀ i (h : i < l.length), ∃ ad, A = some ad ∧ w.cell? (ad.add i) = some (.string l[i])
theorem Strs.below {w w' : World} {A : Option Addr} {l : List ByteArray} (h : Strs w A l) (hb : Below w.heap.size w w') : Strs w' A l := by
  intro i hi
  obtain ⟨ad, e, h1⟩ := h i hi
  exact ⟨ad, e, (World.cell?_of_block (hb.block _ (World.block_lt_of_cell? w _ h1))).trans h1⟩
theorem Strs.head {w : World} {A : Option Addr} {b : ByteArray} {l : List ByteArray} (h : Strs w A (b :: l)) : ∃ ad, A = some ad ∧ w.cell? ad = some (.string b) := by
  obtain ⟨ad, e, h1⟩ := h 0 (by simp)
  have : ad.add 0 = ad := by unfold Addr.add; simp
  rw [this] at h1
  exact ⟨ad, e, h1⟩
theorem own_strs {w : World} {base n c : Nat} {A : Option Addr} {l : List ByteArray} (h : w.ownsRow base 9 1 (.slice A n c) n (tv l)) (hn : n = l.length) : Strs w A l := by
  subst hn
  intro i hi
  rcases h.2 with ⟨h1, h2⟩ | ⟨g, cap, cur, h1, _⟩
  · simp only [Value.slice.injEq] at h1; omega
  · simp only [Value.slice.injEq] at h1
    obtain ⟨rfl, -, rfl⟩ := h1
    have hadd : (⟨g, 0, none⟩ : Addr).add i = ⟨g, i, none⟩ := by unfold Addr.add; split <;> simp_all
    refine ⟨⟨g, 0, none⟩, rfl, ?_⟩
    rw [hadd]
    exact (World.ownsRow.cellAt h i (by omega)).trans (by simp [tv, hi])
set_option maxHeartbeats 3200000 in
set_option maxRecDepth 100000 in
theorem decode_calls (bs : List ByteArray) (A : Option Addr) (c : Nat) (w : World) (h : Strs w A bs) (hs : ∀ b ∈ bs, b.size ≤ 1125899906842624) (hl : bs.length ≤ 1125899906842624) :
    Calls Try.prog 42 #[.slice A bs.length c] w fun e w' => ∃ v, e = .returned (.tuple #[.int .i64 (decS bs).1, v, .int .i64 (decS bs).2.2.1, .int .i64 (decS bs).2.2.2]) ∧ w'.ownsRow w.heap.size 69 2 v (decS bs).2.1.length (cv (decS bs).2.1) ∧ Below w.heap.size w w' := by
  have hu := Try.underlying69
  cases bs with
  | nil =>
    go_enter Try.func42, Try.ntmps42
    go_wp2_with fail
    refine bodyPost_ret (v := .tuple #[.int .i64 0, .slice none 0 0, .int .i64 0, .int .i64 20]) (by simp [results, Try.results42, go_sem]) rfl ⟨.slice none 0 0, rfl, own_nil _ _ _ _, Below.refl _ _⟩
  | cons b r =>
    obtain ⟨ad, rfl, hc⟩ := h.head
    have H := Aside0.mk h
    have HH := Aside0.mk (headed_calls b w (hs b (List.mem_cons_self ..)))
    have hdec : decS (b :: r) = if (headedS b).2.2 = false then (0, [], 0, 4) else if (b :: r).length < (headedS b).2.1.length + 1 then (0, [], 0, 20) else if ¬ right (newL (b :: r) (headedS b).2.1) ∨ b ≠ headS (headedS b).1 (newL (b :: r) (headedS b).2.1) then (0, [], 0, 4) else ((headedS b).1, newL (b :: r) (headedS b).2.1, ((headedS b).2.1.length : Int) + 1, (0 : Int)) := rfl
    have hok := headedS_ok (b := b)
    generalize headedS b = q at HH hdec hok
    obtain ⟨seq, ql, ok⟩ := q
    dsimp only at HH hdec hok
    have HD := Aside0.mk hdec
    have HO := Aside0.mk hok
    obtain ⟨m, hm⟩ : ∃ m, m = (b :: r).length := ⟨_, rfl⟩
    rw [← hm] at hl ⊢
    have hm0 : 1 ≤ m := by rw [hm]; simp
    have hmb : ((m : Int) == 0) = false := by simp; omega
    have hm0i : (0 : Int) < (m : Int) := by omega
    have hm00 : 0 < m := by omega
    have hm0j : (1 : Int) ≤ (m : Int) := by omega
    have HM := Aside0.mk hm
    clear h hs hdec hok hm
    go_enter Try.func42, Try.ntmps42
    go_wp2_with fail
    refine HH.out.mono ?_
    rintro e w1 ⟨v, rfl, hr, hB⟩
    have R1 := Aside0.mk hr
    have B1 := Aside0.mk hB
    obtain ⟨Aq, cq, rfl⟩ := own_slice hr
    clear hr hB HH hc
    cases ok with
    | false =>
      have HD2 : Aside0 (decS (b :: r) = (0, [], 0, 4)) := ⟨by rw [HD.out, if_pos rfl]⟩
      go_wp2_with fail
      refine bodyPost_ret (v := .tuple #[.int .i64 0, .slice none 0 0, .int .i64 0, .int .i64 4]) (by simp [results, Try.results42, go_sem]) rfl ⟨.slice none 0 0, ?_, ?_, by first | exact B1.out | exact below_drew1 B1.out⟩
      · rw [HD2.out]
      · rw [HD2.out]; exact own_nil _ _ _ _
    | true =>
      have HO2 := Aside0.mk (HO.out rfl)
      have hql : ql.length ≤ 48 := HO2.out.2.2.2
      have w1x : IntKind.i64.wrap ((ql.length : Int) + 1) = (ql.length : Int) + 1 := IntWalk.i64_in _ (by omega)
      by_cases g1 : m < ql.length + 1
      · have q1 : decide ((m : Int) < (ql.length : Int) + 1) = true := decide_eq_true (by omega)
        have HD2 : Aside0 (decS (b :: r) = (0, [], 0, 20)) := ⟨by rw [HD.out, if_neg (by simp), if_pos (by rw [← HM.out]; exact g1)]⟩
        clear g1
        go_wp2_with fail
        refine bodyPost_ret (v := .tuple #[.int .i64 0, .slice none 0 0, .int .i64 0, .int .i64 20]) (by simp [results, Try.results42, go_sem]) rfl ⟨.slice none 0 0, ?_, ?_, by first | exact B1.out | exact below_drew1 B1.out⟩
        · rw [HD2.out]
        · rw [HD2.out]; exact own_nil _ _ _ _
      · have q1 : decide ((m : Int) < (ql.length : Int) + 1) = false := decide_eq_false (by omega)
        have HD2 : Aside0 (decS (b :: r) = if ¬ right (newL (b :: r) ql) ∨ b ≠ headS seq (newL (b :: r) ql) then (0, [], 0, 4) else (seq, newL (b :: r) ql, (ql.length : Int) + 1, (0 : Int))) := ⟨by rw [HD.out, if_neg (by simp), if_neg (by rw [← HM.out]; exact g1)]⟩
        have HG := Aside0.mk g1
        clear g1
        go_wp2_with fail
        go_loopw [35] (fun v35 wr => ∃ i : Nat, i ≤ ql.length ∧ v35 = .int .i64 (i : Int) ∧ Aside0 (wr.ownsRow w.heap.size 69 2 (.slice Aq ql.length cq) ql.length (cv (setK (b :: r) ql i))) ∧ Aside0 (Below w.heap.size w wr)) (fun x _ => ql.length - (intOf x).toNat)
        case atStart => exact ⟨0, by omega, rfl, ⟨by first | exact R1.out | exact pw_own_below R1.out (below_drew1 (Below.refl _ _))⟩, ⟨by first | exact B1.out | exact below_drew1 B1.out⟩⟩
        case round =>
          clear R1 B1
          obtain ⟨i, hi, rfl, HR, HB⟩ := hrel
          by_cases hlt : i < ql.length
          · obtain ⟨g, rfl⟩ : ∃ g, Aq = some ⟨g, 0, none⟩ := by
              rcases HR.out.2 with ⟨h1, h2⟩ | ⟨g, cap, cur, h1, _⟩
              · simp at h1
                omega
              · simp at h1
                exact ⟨g, h1.1⟩
            have him : i + 1 < m := by have := HG.out; omega
            obtain ⟨ad', e', d0⟩ := (H.out.below HB.out) (i + 1) (by rw [← HM.out]; exact him)
            obtain rfl := Option.some.inj e'
            have hst : setK (b :: r) ql (i + 1) = (setK (b :: r) ql i).modify i fun c => (c.1, ((b :: r)[i + 1]?).getD ⟨#[]⟩) := rfl
            rw [List.getElem?_eq_getElem (by rw [← HM.out]; exact him), Option.getD_some] at hst
            generalize (b :: r)[i + 1]'(by rw [← HM.out]; exact him) = s at d0 hst
            rw [show ad.add (i + 1) = ⟨ad.block, ad.off + (i + 1), none⟩ by unfold Addr.add; simp] at d0
            have HSt := Aside0.mk hst
            clear hst e'
            have w2 : IntKind.i64.wrap ((i : Int) + 1) = (i : Int) + 1 := IntWalk.i64_in _ (by omega)
            obtain ⟨u, hu1⟩ : ∃ u, (cv (setK (b :: r) ql i))[i * 2 + 1]? = some u := ⟨_, (cv_at (setK (b :: r) ql i) i (by rw [setK_length]; exact hlt)).2⟩
            have cz : wr.cell? ⟨g, i * 2 + 1, none⟩ = some u := (HR.out.cellAt (i * 2 + 1) (by omega)).trans hu1
            have fz := HR.out.frozenAt (i * 2 + 1)
            have N1 := Aside0.mk (HR.out.stored (i * 2 + 1) (.string s))
            have NG := Aside0.mk (own_base HR.out g rfl)
            clear hu1
            go_wp2_with fail
            go_roundw
            case rel => exact ⟨i + 1, by omega, by simp, ⟨by rw [HSt.out, ← cv_modify]; exact N1.out.1⟩, ⟨HB.out.setCell (p := ⟨g, i * 2 + 1, none⟩) NG.out (.string s)⟩⟩
            case measure => simp [intOf]; omega
          · obtain rfl : i = ql.length := by omega
            have hlen : (newL (b :: r) ql).length = ql.length := setK_length _ _ _
            have hR : wr.ownsRow w.heap.size 69 2 (.slice Aq ql.length cq) ql.length (cv (newL (b :: r) ql)) := HR.out
            generalize newL (b :: r) ql = nl at HD2 hlen hR
            have R2 := Aside0.mk hR
            have HLen := Aside0.mk hlen
            have HC : Aside0 (∀ W, Below wr.heap.size wr W → Calls Try.prog 30 #[.slice Aq ql.length cq] W fun e w' => e = .returned (.int .i64 (chk nl)) ∧ Below W.heap.size W w') := ⟨fun W hb => by
              have := check_calls nl Aq cq W ((own_chs hR hlen.symm).below hb) (by omega)
              rwa [hlen] at this⟩
            clear hR HR hlen HD HG
            obtain ⟨ad', e', d0⟩ := (H.out.below HB.out).head
            obtain rfl := Option.some.inj e'
            by_cases g : right nl
            · rw [show chk nl = 0 from if_pos g] at HC
              obtain ⟨hs, hhs⟩ : ∃ x, x = headS seq nl := ⟨_, rfl⟩
              have HHd : Aside0 (∀ W, Below wr.heap.size wr W → Calls Try.prog 47 #[.int .i64 seq, .slice Aq ql.length cq] W fun e w' => e = .returned (.string hs) ∧ Below W.heap.size W w') := ⟨fun W hb => by
                have := head_calls seq nl Aq cq W ((own_chs R2.out HLen.out.symm).below hb) (right_fits g) (by have := HO2.out.1; omega) HO2.out.2.1
                rw [HLen.out, ← hhs] at this
                exact this⟩
              have HDr : Aside0 (∀ W, Below wr.heap.size wr W → W.cell? ad = some (.string b)) := ⟨fun W hb => by
                obtain ⟨ad', e', d0⟩ := (H.out.below (HB.out.trans (hb.mono HB.out.size))).head
                obtain rfl := Option.some.inj e'
                exact d0⟩
              have GR := Aside0.mk g
              rw [← hhs] at HD2
              clear hhs g d0 e'
              by_cases g2 : b = hs
              · subst g2
                have HD3 : Aside0 (decS (b :: r) = (seq, nl, (ql.length : Int) + 1, 0)) := ⟨by rw [HD2.out, if_neg]; rintro (hh | hh); exact hh GR.out; exact hh rfl⟩
                clear HD2 GR
                have qn : (b.toList == b.toList) = true := by simp
                have B0 : Aside0 (Below wr.heap.size wr wr.drew) := ⟨below_drew1 (Below.refl _ _)⟩
                go_wp2_with fail
                go_region_held3 (fun w' => w'.cell? ad = some (.string b)) (first | exact HDr.out _ B0.out | exact HDr.out _ B2.out | exact HDr.out _ B3.out) (first
                  | (go_at_call 30; refine (HC.out _ B0.out).mono ?_; rintro e w2 ⟨rfl, hB⟩; have B2 := Aside0.mk (B0.out.trans (hB.mono B0.out.size)); clear hB)
                  | (go_at_call 47; refine (HHd.out _ B2.out).mono ?_; rintro e w3 ⟨rfl, hB⟩; have B3 := Aside0.mk (B2.out.trans (hB.mono B2.out.size)); clear hB))
                all_goals go_wp2_with fail
                all_goals refine bodyPost_ret (v := .tuple #[.int .i64 seq, .slice Aq ql.length cq, .int .i64 ((ql.length : Int) + 1), .int .i64 0]) (by simp [results, Try.results42, go_sem]) rfl ⟨.slice Aq ql.length cq, ?_, ?_, HB.out.trans (B3.out.mono HB.out.size)⟩
                all_goals first | (rw [HD3.out]; done) | (rw [HD3.out]; dsimp only; rw [HLen.out]; exact pw_own_below R2.out B3.out)
              · have HD3 : Aside0 (decS (b :: r) = (0, [], 0, 4)) := ⟨by rw [HD2.out, if_pos (.inr g2)]⟩
                have qn : (b.toList == hs.toList) = false := by rw [eq_iff]; exact decide_eq_false g2
                clear HD2 GR g2
                have B0 : Aside0 (Below wr.heap.size wr wr.drew) := ⟨below_drew1 (Below.refl _ _)⟩
                go_wp2_with fail
                go_region_held3 (fun w' => w'.cell? ad = some (.string b)) (first | exact HDr.out _ B0.out | exact HDr.out _ B2.out | exact HDr.out _ B3.out) (first
                  | (go_at_call 30; refine (HC.out _ B0.out).mono ?_; rintro e w2 ⟨rfl, hB⟩; have B2 := Aside0.mk (B0.out.trans (hB.mono B0.out.size)); clear hB)
                  | (go_at_call 47; refine (HHd.out _ B2.out).mono ?_; rintro e w3 ⟨rfl, hB⟩; have B3 := Aside0.mk (B2.out.trans (hB.mono B2.out.size)); clear hB))
                all_goals go_wp2_with fail
                all_goals refine bodyPost_ret (v := .tuple #[.int .i64 0, .slice none 0 0, .int .i64 0, .int .i64 4]) (by simp [results, Try.results42, go_sem]) rfl ⟨.slice none 0 0, ?_, ?_, HB.out.trans (B3.out.mono HB.out.size)⟩
                all_goals first | (rw [HD3.out]; done) | (rw [HD3.out]; exact own_nil _ _ _ _)
            · rw [show chk nl = 70 from if_neg g] at HC
              have HD3 : Aside0 (decS (b :: r) = (0, [], 0, 4)) := ⟨by rw [HD2.out, if_pos (.inl g)]⟩
              have HDr0 : Aside0 (∀ W, Below wr.heap.size wr W → W.cell? ad = some (.string b)) := ⟨fun W hb => by
                obtain ⟨ad', e', d0⟩ := (H.out.below (HB.out.trans (hb.mono HB.out.size))).head
                obtain rfl := Option.some.inj e'
                exact d0⟩
              clear HD2 g d0 e'
              have B0 : Aside0 (Below wr.heap.size wr wr.drew) := ⟨below_drew1 (Below.refl _ _)⟩
              go_wp2_with fail
              first
                | (go_region_with (go_at_call 30; refine (HC.out _ B0.out).mono ?_; rintro e w2 ⟨rfl, hB⟩; have B2 := Aside0.mk (B0.out.trans (hB.mono B0.out.size)); clear hB))
                | fail
              all_goals go_wp2_with fail
              all_goals refine bodyPost_ret (v := .tuple #[.int .i64 0, .slice none 0 0, .int .i64 0, .int .i64 4]) (by simp [results, Try.results42, go_sem]) rfl ⟨.slice none 0 0, ?_, ?_, HB.out.trans (B2.out.mono HB.out.size)⟩
              all_goals first | (rw [HD3.out]; done) | (rw [HD3.out]; exact own_nil _ _ _ _)
end Go.Proofs.Ytlmnfnkjbgnklaa.Txn
end

section
/- A transaction is read as it was written: plain laws. -/
set_option linter.unusedVariables false
set_option linter.unusedSimpArgs false
namespace Go.Proofs.Ytlmnfnkjbgnklaa.TxnS
open Go.RowKit Go.Proofs.YtlmnfnkjbgnklaaW.PrintWords Go.Proofs.Ytlmnfnkjbgnklaa.Spec Go.Proofs.Ytlmnfnkjbgnklaa.C
def blank (l : List Ch) : List Ch := l.map fun c => (c.1, zb)
theorem zb_size : zb.size = 128 := by unfold zb; rw [strOfNums_size, List.length_replicate]
theorem rightL_blank (a : Int) : ∀ (l : List Ch), rightL a l → rightL a (blank l)
  | [], _ => trivial
  | c :: l, h => ⟨h.1, h.2.1, zb_size, rightL_blank c.1 l h.2.2.2⟩
theorem blank_length (l : List Ch) : (blank l).length = l.length := by simp [blank]
theorem right_blank {l : List Ch} (h : right l) : right (blank l) := ⟨rightL_blank _ l h.1, by rw [blank_length]; exact h.2⟩
theorem rdL_nums (l : List Ch) (t : List Int) (h : ∀ c ∈ l, 0 ≤ c.1 ∧ c.1 < 1024) : ∀ i, i ≤ l.length → rdL (strOfNums (numsL l ++ t)) 0 i = (blank (l.take i), strOfNums (numsL (l.drop i) ++ t), 0)
  | 0, _ => rfl
  | i + 1, hi => by
    have ih := rdL_nums l t h i (by omega)
    have hlt : i < l.length := by omega
    have hc := h _ (List.getElem_mem hlt)
    have hd : numsL (l.drop i) = le (l[i]).1 2 ++ numsL (l.drop (i + 1)) := by
      rw [List.drop_eq_getElem_cons hlt]
      rfl
    obtain ⟨n, hn⟩ : ∃ n : Nat, (l[i]).1 = n := ⟨(l[i]).1.toNat, by omega⟩
    have hr := readS_le n 2 (strOfNums (numsL (l.drop (i + 1)) ++ t)) (by omega) (by omega)
    rw [strOfNums_append, ← List.append_assoc, ← hn, ← hd] at hr
    rw [rdL, ih]
    dsimp only
    rw [hr]
    dsimp only
    rw [List.take_succ_eq_append_getElem hlt]
    unfold blank
    rw [List.map_append]
    rfl
theorem head_back {seq : Int} {l : List Ch} (h0 : 1 ≤ seq) (h1 : seq ≤ 1099511627776) (hr : right l) : headedS (headS seq l) = (seq, blank l, true) := by
  have hu : unblockS (headS seq l) = (headT seq l, 0) := Go.Proofs.Ytlmnfnkjbgnklaa.Ev.unblock_block _ (by rw [headT_size]; have := hr.2; omega)
  have hf := right_fits hr
  unfold headedS
  rw [hu]
  have hc : cutS (headT seq l) tee = (strOfNums (headN seq l), true) := cut_self tee (strOfNums (headN seq l))
  dsimp only
  rw [hc, if_neg (by simp)]
  obtain ⟨s, rfl⟩ : ∃ s : Nat, seq = s := ⟨seq.toNat, by omega⟩
  have e1 : headN (s : Int) l = le s 8 ++ (le l.length 1 ++ (numsL l ++ le (crc (dataL l)) 4)) := by unfold headN; simp only [List.append_assoc]
  have r1 := readS_le s 8 (strOfNums (le l.length 1 ++ (numsL l ++ le (crc (dataL l)) 4))) (by omega) (by omega)
  have r2 := readS_le l.length 1 (strOfNums (numsL l ++ le (crc (dataL l)) 4)) (by have := hr.2; omega) (by have := hr.2; omega)
  have r3 := rdL_nums l (le (crc (dataL l)) 4) (fun c hc => ⟨(hf.2 c hc).1, (hf.2 c hc).2.1⟩) l.length (Nat.le_refl _)
  have r4 := readS_le (crc (dataL l)) 4 (strOfNums []) (by have := crc_lt (dataL l); omega) (by have := crc_lt (dataL l); omega)
  rw [strOfNums_append] at r1 r2 r4
  rw [List.append_nil] at r4
  rw [List.take_length, List.drop_length] at r3
  have e0 : numsL ([] : List Ch) ++ le (crc (dataL l)) 4 = le (crc (dataL l)) 4 := rfl
  rw [e0] at r3
  rw [← e1] at r1
  unfold headR
  simp only [r1, r2, Int.toNat_natCast, r3, r4]
  have he : endS (strOfNums []) 0 = 0 := by
    unfold endS
    rw [if_neg (by simp), if_pos (by rw [strOfNums_size]; rfl)]
  have hd : decide (endS (strOfNums []) 0 = 0 ∧ 1 ≤ (s : Int) ∧ (s : Int) ≤ 1099511627776 ∧ right (blank l)) = true := decide_eq_true ⟨he, h0, h1, right_blank hr⟩
  rw [hd]
theorem newL_get (bs : List ByteArray) (l : List Ch) (j : Nat) : (newL bs l)[j]? = (l[j]?).map fun c => (c.1, (bs[j + 1]?).getD ⟨#[]⟩) := by
  unfold newL
  rw [setK_get]
  by_cases h : j < l.length
  · rw [if_pos h]
  · rw [if_neg h, List.getElem?_eq_none (by omega)]; rfl
theorem newL_back (b : ByteArray) (l : List Ch) (more : List ByteArray) : newL (b :: (l.map Prod.snd ++ more)) (blank l) = l := by
  apply List.ext_getElem?
  intro j
  rw [newL_get, List.getElem?_cons_succ]
  unfold blank
  rw [List.getElem?_map]
  by_cases h : j < l.length
  · rw [List.getElem?_append_left (by simpa using h), List.getElem?_map, List.getElem?_eq_getElem h]
    rfl
  · rw [List.getElem?_eq_none (show l.length ≤ j by omega)]; rfl
theorem dec_cons (b : ByteArray) (r : List ByteArray) : decS (b :: r) = if (headedS b).2.2 = false then (0, [], 0, 4) else if (b :: r).length < (headedS b).2.1.length + 1 then (0, [], 0, 20) else if ¬ right (newL (b :: r) (headedS b).2.1) ∨ b ≠ headS (headedS b).1 (newL (b :: r) (headedS b).2.1) then (0, [], 0, 4) else ((headedS b).1, newL (b :: r) (headedS b).2.1, ((headedS b).2.1.length : Int) + 1, (0 : Int)) := rfl
/-- There and back. -/
theorem dec_enc {seq : Int} {l : List Ch} (h0 : 1 ≤ seq) (h1 : seq ≤ 1099511627776) (hr : right l) (more : List ByteArray) : decS (blocksL seq l ++ more) = (seq, l, (l.length : Int) + 1, 0) := by
  have hb := head_back h0 h1 hr
  have hn := newL_back (headS seq l) l more
  show decS (headS seq l :: (l.map Prod.snd ++ more)) = _
  rw [dec_cons, hb]
  dsimp only
  rw [if_neg (by simp), if_neg (by rw [List.length_cons, List.length_append, List.length_map, blank_length]; omega), hn, if_neg, blank_length]
  rintro (h | h)
  · exact h hr
  · exact h rfl
end Go.Proofs.Ytlmnfnkjbgnklaa.TxnS
end
