/- The document's answer, walked: Right, and the sum of a text. The document's Encode. -/
import Derived.Test.YtlmnfnkjbgnklaaTxn
import Derived.Test.YtlmnfnkjbgnklaaSumC
import Derived.Test.YtlmnfnkjbgnklaaTxnE
import Derived.Deep.RegionHeld3
section
/- The document's answer, walked: Right, and the sum of a text. -/
set_option linter.unusedVariables false
set_option linter.unusedSimpArgs false
namespace Go.Proofs.Ytlmnfnkjbgnklaa.C
open Go.RowKit Go.Proofs.YtlmnfnkjbgnklaaW.PrintWords Go.Proofs.Ytlmnfnkjbgnklaa.Spec Go.Proofs.Ytlmnfnkjbgnklaa.Ev
theorem rof_calls (a0 : ByteArray) (hs : a0.size ≤ 1125899906842624) (w : World) : Calls Try.prog 48 #[.string a0] w fun e w' => e = .returned (.int .i64 (crc a0 : Int)) ∧ Below w.heap.size w w' := by
  obtain ⟨k, hk⟩ := (rof_ev a0 (by omega)).rounds
  exact (Ps.cartularyref03_Of.calls k a0 _ w hk).mono fun _ _ h => ⟨h.1, h.2.below⟩
theorem rfix_calls (n : Int) (m : Nat) (h0 : 0 ≤ n) (h1 : n ≤ 9223372036854775807) (hm : m ≤ 8) (w : World) : Calls Try.prog 40 #[.int .i64 n, .int .i64 (m : Int)] w fun e w' => e = .returned (.string (strOfNums (le n m))) ∧ Below w.heap.size w w' := by
  obtain ⟨k, hk⟩ := (rfixed_ev n h0 h1 m hm).rounds
  exact Ps.cartularyref02_Fixed.calls k n m _ w hk
end Go.Proofs.Ytlmnfnkjbgnklaa.C
namespace Go.Proofs.Ytlmnfnkjbgnklaa.Txn
open Go.RowKit Go.Proofs.YtlmnfnkjbgnklaaW.PrintWords Go.Proofs.YtlmnfnkjbgnklaaW.PrintLast Go.Proofs.YtlmnfnkjbgnklaaW.PrintMore Go.Proofs.Ytlmnfnkjbgnklaa.TxnS
set_option maxHeartbeats 3200000 in
set_option maxRecDepth 100000 in
theorem right_calls (l : List Ch) (A : Option Addr) (c : Nat) (w : World) (h : Chs w A l) (hl : l.length ≤ 1125899906842624) : Calls Try.prog 33 #[.slice A l.length c] w fun e w' => e = .returned (.bool (decide (right l))) ∧ Below w.heap.size w w' := by
  have hu := Try.underlying69
  have H := Aside0.mk h
  clear h
  by_cases g48 : 48 < l.length
  · have q : decide (48 < l.length) = true := decide_eq_true g48
    have N2 : Aside0 (decide (right l) = false) := ⟨decide_eq_false (fun hh => by have := hh.2; omega)⟩
    go_enter Try.func33, Try.ntmps33
    go_wp2_with fail
    go_ret
    exact ⟨by rw [N2.out]; rfl, Below.refl _ _⟩
  · have q : decide (48 < l.length) = false := decide_eq_false g48
    go_enter Try.func33, Try.ntmps33
    go_wp2_with fail
    go_loopw [3, 11] (fun v3 v11 wr => ∃ i : Nat, i ≤ l.length ∧ v11 = .int .i64 (i : Int) ∧ v3 = .int .i64 (lastAt l i) ∧ Aside0 (rightL (-1) l ↔ rightL (lastAt l i) (l.drop i)) ∧ Aside0 (Below w.heap.size w wr)) (fun _ x _ => l.length - (intOf x).toNat)
    case atStart => exact ⟨0, by omega, rfl, rfl, ⟨Iff.rfl⟩, ⟨Below.refl _ _⟩⟩
    case round =>
      obtain ⟨i, hi, rfl, rfl, HR, HB⟩ := hrel
      by_cases hlt : i < l.length
      · obtain ⟨ad, rfl, e0, e1⟩ := (H.out.below HB.out) i hlt
        have hs := rightL_step l i hlt
        have hl1 := lastAt_succ l i hlt
        generalize l[i] = x at e0 e1 hs hl1
        obtain ⟨a, s⟩ := x
        have HS := Aside0.mk hs
        have HL1 := Aside0.mk hl1
        clear hs hl1
        dsimp only at e0 e1
        generalize lastAt l i = last at HR HS ⊢
        have P1 := Aside0.mk (blk_new wr (.cells #[.int .i64 a, .string s] 69))
        have B1 := Aside0.mk (HB.out.trans ((below_alloc (Below.refl wr.heap.size wr) (.cells #[.int .i64 a, .string s] 69)).mono HB.out.size))
        go_upto_region 7 with fail
        generalize hW : wr.alloc (.cells #[.int .i64 a, .string s] 69) = W1 at P1 B1 ⊢
        clear hW e0 e1
        have p0 := (blk_cell P1.out 0).trans (Eq.refl (some (Value.int .i64 a)))
        have p1 := (blk_cell P1.out 1).trans (Eq.refl (some (Value.string s)))
        have No : Aside0 (¬ (last < a ∧ a < 1024 ∧ s.size = 128) → decide (right l) = false) := ⟨fun hn => decide_eq_false (fun hr => by
          have h2 := HS.out.1 (HR.out.1 hr.1)
          exact hn ⟨h2.1, h2.2.1, h2.2.2.1⟩)⟩
        by_cases g1 : a ≤ last
        · have q1 : decide (a ≤ last) = true := decide_eq_true g1
          have N2 := Aside0.mk (No.out (fun hh => by have := hh.1; omega))
          go_wp2_with fail
          go_ret
          exact ⟨by rw [N2.out]; rfl, B1.out⟩
        · have q1 : decide (a ≤ last) = false := decide_eq_false g1
          by_cases g2 : a ≥ 1024
          · have q2 : decide (a ≥ 1024) = true := decide_eq_true g2
            have N2 := Aside0.mk (No.out (fun hh => by have := hh.2.1; omega))
            go_wp2_with fail
            go_ret
            exact ⟨by rw [N2.out]; rfl, B1.out⟩
          · have q2 : decide (a ≥ 1024) = false := decide_eq_false g2
            by_cases g3 : s.size = 128
            · have q3 : ((s.size : Int) != 128) = false := by simp; omega
              have N3 : Aside0 (rightL (-1) l ↔ rightL (lastAt l (i + 1)) (l.drop (i + 1))) := ⟨HR.out.trans (HS.out.trans ⟨fun hh => hh.2.2.2, fun hh => ⟨show last < a by omega, show a < 1024 by omega, g3, hh⟩⟩)⟩
              clear g3
              go_wp2_with fail
              go_roundw
              case rel => exact ⟨i + 1, by omega, by simp, by rw [HL1.out], N3, B1⟩
              case measure => simp [intOf]; omega
            · have q3 : ((s.size : Int) != 128) = true := by simp; omega
              have N2 := Aside0.mk (No.out (fun hh => g3 hh.2.2))
              clear g3
              go_wp2_with fail
              go_ret
              exact ⟨by rw [N2.out]; rfl, B1.out⟩
      · obtain rfl : i = l.length := by omega
        have hR := HR.out
        rw [List.drop_length] at hR
        have N2 : Aside0 (decide (right l) = true) := ⟨decide_eq_true ⟨hR.2 trivial, by omega⟩⟩
        clear hR HR
        go_wp2_with fail
        go_ret
        exact ⟨by rw [N2.out]; rfl, HB.out⟩
end Go.Proofs.Ytlmnfnkjbgnklaa.Txn
end

section
/- The document's Encode. -/
set_option linter.unusedVariables false
set_option linter.unusedSimpArgs false
namespace Go.Proofs.Ytlmnfnkjbgnklaa.Txn
open Go.RowKit Go.Proofs.YtlmnfnkjbgnklaaW.PrintWords Go.Proofs.YtlmnfnkjbgnklaaW.PrintLast Go.Proofs.YtlmnfnkjbgnklaaW.PrintMore Go.Proofs.Ytlmnfnkjbgnklaa.TxnS Go.Proofs.Ytlmnfnkjbgnklaa.Spec
theorem renc_no1 (seq : Int) (r : Value) (w : World) (h : seq < 1 ∨ 1099511627776 < seq) : Calls Try.prog 34 #[.int .i64 seq, r] w fun e w' => e = .returned (.tuple #[.slice none 0 0, .int .i64 1]) ∧ Below w.heap.size w w' := by
  by_cases h1 : seq < 1
  · have b1 : decide (seq < 1) = true := decide_eq_true h1
    go_enter Try.func34, Try.ntmps34
    go_wp2_with fail
    go_ret2
    exact ⟨rfl, Below.refl _ _⟩
  · have b1 : decide (seq < 1) = false := decide_eq_false h1
    have b2 : decide (seq > 1099511627776) = true := decide_eq_true (by omega)
    go_enter Try.func34, Try.ntmps34
    go_wp2_with fail
    go_ret2
    exact ⟨rfl, Below.refl _ _⟩
theorem renc_no2 (seq : Int) (l : List Ch) (A : Option Addr) (c : Nat) (w : World) (h : Chs w A l) (hl : l.length ≤ 1125899906842624) (h0 : 1 ≤ seq) (h1 : seq ≤ 1099511627776) (hr : ¬ right l) : Calls Try.prog 34 #[.int .i64 seq, .slice A l.length c] w fun e w' => e = .returned (.tuple #[.slice none 0 0, .int .i64 70]) ∧ Below w.heap.size w w' := by
  have b1 : decide (seq < 1) = false := decide_eq_false (by omega)
  have b2 : decide (seq > 1099511627776) = false := decide_eq_false (by omega)
  have HC := Aside0.mk (right_calls l A c w h hl)
  rw [decide_eq_false hr] at HC
  clear h hr
  go_enter Try.func34, Try.ntmps34
  go_wp2_with fail
  refine HC.out.mono ?_
  rintro e w1 ⟨rfl, hB⟩
  have HB := Aside0.mk hB
  clear hB
  go_wp2_with fail
  go_ret2
  exact ⟨rfl, by first | exact HB.out | exact below_drew1 HB.out⟩
/-- The text that a head has, from its left. -/
def headP (seq : Int) (l : List Ch) (i : Nat) : ByteArray := (⟨#[84]⟩ : ByteArray) ++ strOfNums (le seq 8) ++ strOfNums (le l.length 1) ++ strOfNums (numsL (l.take i))
theorem headP_succ (seq : Int) (l : List Ch) (i : Nat) (h : i < l.length) : headP seq l (i + 1) = headP seq l i ++ strOfNums (le (l[i]).1 2) := by
  unfold headP
  rw [numsL_take l i h, ← strOfNums_append]
  simp only [ByteArray.append_assoc]
theorem headP_all (seq : Int) (l : List Ch) : headP seq l l.length ++ strOfNums (le (crc (dataL l)) 4) = headT seq l := by
  unfold headP headT headN
  rw [List.take_length, ← strOfNums_append, ← strOfNums_append, ← strOfNums_append]
  simp only [ByteArray.append_assoc]
theorem headP_size (seq : Int) (l : List Ch) (i : Nat) (h : i ≤ l.length) : (headP seq l i).size = 10 + 2 * i := by
  unfold headP
  rw [ByteArray.size_append, ByteArray.size_append, ByteArray.size_append, strOfNums_size, strOfNums_size, strOfNums_size, le_length, le_length, numsL_length, List.length_take, Nat.min_eq_left h]
  show 1 + 8 + 1 + _ = _
  omega
set_option maxHeartbeats 6400000 in
set_option maxRecDepth 100000 in
theorem renc_yes (seq : Int) (l : List Ch) (A : Option Addr) (c : Nat) (w : World) (h : Chs w A l) (h0 : 1 ≤ seq) (h1 : seq ≤ 1099511627776) (hr : right l) : Calls Try.prog 34 #[.int .i64 seq, .slice A l.length c] w fun e w' => ∃ v, e = .returned (.tuple #[v, .int .i64 0]) ∧ w'.ownsRow w.heap.size 9 1 v (blocksL seq l).length (tv (blocksL seq l)) ∧ Below w.heap.size w w' := by
  have hu := Try.underlying69
  have b1 : decide (seq < 1) = false := decide_eq_false (by omega)
  have b2 : decide (seq > 1099511627776) = false := decide_eq_false (by omega)
  have hl : l.length ≤ 48 := hr.2
  have HC := Aside0.mk (right_calls l A c w h (by omega))
  rw [decide_eq_true hr] at HC
  have H := Aside0.mk h
  have HF := Aside0.mk (right_fits hr)
  clear h hr
  go_enter Try.func34, Try.ntmps34
  go_wp2_with fail
  refine HC.out.mono ?_
  rintro e w1 ⟨rfl, hB⟩
  have HB := Aside0.mk hB
  clear hB HC
  go_wp2_with fail
  refine (C.rfix_calls seq 8 (by omega) (by omega) (by omega) _).mono ?_
  have HP0 : Aside0 ((⟨#[84]⟩ : ByteArray) ++ strOfNums (le seq 8) ++ strOfNums (le l.length 1) = headP seq l 0) := ⟨by unfold headP; simp [numsL, strOfNums]; rfl⟩
  rintro e w2 ⟨rfl, hB⟩
  have HB2 := Aside0.mk (HB.out.trans (hB.mono HB.out.size))
  clear hB HB
  go_wp2_with fail
  refine (C.rfix_calls l.length 1 (by omega) (by omega) (by omega) _).mono ?_
  rintro e w3 ⟨rfl, hB⟩
  have HB3 := Aside0.mk (HB2.out.trans (hB.mono HB2.out.size))
  clear hB HB2
  go_wp2_with fail
  rw [HP0.out]
  have HD0 : Aside0 ((⟨#[]⟩ : ByteArray) = dataL (l.take 0)) := ⟨rfl⟩
  go_loopw [6, 7, 33] (fun v6 v7 v33 wr => ∃ i : Nat, i ≤ l.length ∧ v33 = .int .i64 (i : Int) ∧ v6 = .string (headP seq l i) ∧ v7 = .string (dataL (l.take i)) ∧ Aside0 (Below w.heap.size w wr)) (fun _ _ x _ => l.length - (intOf x).toNat)
  case atStart => exact ⟨0, by omega, rfl, rfl, rfl, HB3⟩
  case round =>
    clear HB3
    obtain ⟨i, hi, rfl, rfl, rfl, HB⟩ := hrel
    by_cases hlt : i < l.length
    · obtain ⟨ad, rfl, e0, e1⟩ := (H.out.below HB.out) i hlt
      have ht := headP_succ seq l i hlt
      have hd := dataL_take l i hlt
      have hc := HF.out.2 _ (List.getElem_mem hlt)
      have hs1 := headP_size seq l i hi
      have hs2 := dataL_size 128 (l.take i) (fun x hx => by have := (HF.out.2 x (List.mem_of_mem_take hx)).2.2; omega)
      rw [List.length_take, Nat.min_eq_left hi] at hs2
      generalize l[i] = x at e0 e1 ht hd hc
      obtain ⟨a, s⟩ := x
      have HT := Aside0.mk ht
      have HD := Aside0.mk hd
      clear ht hd
      generalize headP seq l i = P at HT hs1 ⊢
      generalize dataL (l.take i) = D at HD hs2 ⊢
      dsimp only at e0 e1 hc
      obtain ⟨hc0, hc1, hc2⟩ := hc
      have P1 := Aside0.mk (blk_new wr (.cells #[.int .i64 a, .string s] 69))
      have B1 := Aside0.mk (HB.out.trans ((below_alloc (Below.refl wr.heap.size wr) (.cells #[.int .i64 a, .string s] 69)).mono HB.out.size))
      go_upto_region 10 with fail
      generalize hW : wr.alloc (.cells #[.int .i64 a, .string s] 69) = W1 at P1 B1 ⊢
      generalize hg : wr.heap.size = g at P1 ⊢
      clear hW e0 e1 hg
      have p0 := (blk_cell P1.out 0).trans (Eq.refl (some (Value.int .i64 a)))
      go_wp2_with fail
      refine (C.rfix_calls a 2 hc0 (by omega) (by omega) _).mono ?_
      rintro e w4 ⟨rfl, hB⟩
      have B2 := Aside0.mk (B1.out.trans (hB.mono B1.out.size))
      have P2 := Aside0.mk ((hB.block _ (blk_lt P1.out)).trans P1.out)
      clear hB p0 P1 B1
      have hF : (strOfNums (le a 2)).size ≤ 8 := by rw [strOfNums_size, le_length]; omega
      have hs1' : P.size ≤ 200 := by omega
      have hd2 : D.size ≤ 10000 := by omega
      have hs2' : s.size ≤ 200 := by omega
      generalize strOfNums (le a 2) = F at HT hF ⊢
      clear hs1 hs2 hc2
      have p1 := (blk_cell P2.out 1).trans (Eq.refl (some (Value.string s)))
      go_wp2_with fail
      go_roundw
      case rel => exact ⟨i + 1, by omega, by simp, by rw [HT.out], by rw [HD.out], B2⟩
      case measure => simp [intOf]; omega
    · obtain rfl : i = l.length := by omega
      rw [List.take_length]
      have hPs := headP_size seq l l.length (Nat.le_refl _)
      have hds := dataL_size 128 l (fun x hx => by have := (HF.out.2 x hx).2.2; omega)
      have hcr := crc_lt (dataL l)
      have HE := Aside0.mk (headP_all seq l)
      have HK := Aside0.mk (fun W => C.rof_calls (dataL l) (by omega) W)
      have HTs := Aside0.mk (headT_size seq l)
      have HH : Aside0 (headS seq l = (blockS (headT seq l)).1) := ⟨rfl⟩
      generalize headP seq l l.length = P at HE hPs ⊢
      generalize dataL l = dl at HE hcr HK hds ⊢
      generalize crc dl = cr at HE hcr HK
      generalize headT seq l = hT at HE HTs HH
      obtain ⟨hS, hSe⟩ : ∃ x, x = headS seq l := ⟨_, rfl⟩
      have HBl : Aside0 (blocksL seq l = hS :: l.map Prod.snd) := ⟨by rw [hSe]; rfl⟩
      rw [← hSe] at HH
      clear hSe
      go_wp2_with fail
      refine (HK.out _).mono ?_
      rintro e w5 ⟨rfl, hB⟩
      have B5 := Aside0.mk (HB.out.trans (hB.mono HB.out.size))
      clear hB
      go_wp2_with fail
      refine (C.rfix_calls cr 4 (by omega) (by omega) (by omega) _).mono ?_
      rintro e w6 ⟨rfl, hB⟩
      have B6 := Aside0.mk (B5.out.trans (hB.mono B5.out.size))
      clear hB B5
      have hF : (strOfNums (le cr 4)).size ≤ 8 := by rw [strOfNums_size, le_length]; omega
      have hPs' : P.size ≤ 200 := by omega
      clear hPs
      generalize strOfNums (le cr 4) = F at HE hF ⊢
      have HX := Aside0.mk (C.cartularyref03_Block.calls (P ++ F) hS (blockS hT).2 w6 (by rw [HE.out, HH.out]; exact C.lim_ok _ (by rw [HTs.out]; omega)))
      go_wp2_with fail
      refine HX.out.mono ?_
      rintro e w7 ⟨rfl, hB⟩
      have B7 := Aside0.mk (B6.out.trans (hB.mono B6.out.size))
      clear hB B6 HX HE
      have R3 : Aside0 ((w7.alloc (.cells #[.string hS] 9)).ownsRow w.heap.size 9 1 (.slice (some ⟨w7.heap.size, 0, none⟩) 1 1) (tv (hS :: (l.take 0).map Prod.snd)).length (tv (hS :: (l.take 0).map Prod.snd))) := ⟨World.ownsRow_lit w7 #[.string hS] 1 B7.out.size (by decide) rfl⟩
      have B8 := Aside0.mk (below_alloc B7.out (.cells #[.string hS] 9))
      go_wp2_with fail
      go_loopw [12, 60] (fun v7 v27 wr => ∃ i : Nat, i ≤ l.length ∧ v27 = .int .i64 (i : Int) ∧ Aside0 (wr.ownsRow w.heap.size 9 1 v7 (tv (hS :: (l.take i).map Prod.snd)).length (tv (hS :: (l.take i).map Prod.snd))) ∧ Aside0 (Below w.heap.size w wr)) (fun _ x _ => l.length - (intOf x).toNat)
      case atStart => exact ⟨0, by omega, rfl, R3, B8⟩
      case round =>
        clear R3 B8 B7
        obtain ⟨i, hi, rfl, HR, HBr⟩ := hrel
        by_cases hlt : i < l.length
        · obtain ⟨ad, rfl, e0, e1⟩ := (H.out.below HBr.out) i hlt
          have ht : tv (hS :: (l.take (i + 1)).map Prod.snd) = tv (hS :: (l.take i).map Prod.snd) ++ [.string (l[i]).2] := by
            unfold tv
            rw [List.take_succ_eq_append_getElem hlt, List.map_append, ← List.cons_append, List.map_append]
            rfl
          generalize l[i] = x at e0 e1 ht
          obtain ⟨a, s⟩ := x
          have HT := Aside0.mk ht
          clear ht
          dsimp only at e0 e1
          have P1 := Aside0.mk (blk_new wr (.cells #[.int .i64 a, .string s] 69))
          have B1 := Aside0.mk (below_alloc (Below.refl wr.heap.size wr) (.cells #[.int .i64 a, .string s] 69))
          go_upto_region 18 with fail
          generalize hW : wr.alloc (.cells #[.int .i64 a, .string s] 69) = W1 at P1 B1 ⊢
          clear hW e0 e1
          have p1 := (blk_cell P1.out 1).trans (Eq.refl (some (Value.string s)))
          have R1 := Aside0.mk (pw_own_below HR.out B1.out)
          have B2 := Aside0.mk (HBr.out.trans (B1.out.mono HBr.out.size))
          have hml : ((tv (hS :: (l.take i).map Prod.snd)).length + 1) * 16 ≤ 140737488355328 := by simp only [tv, List.length_map, List.length_cons, List.length_take]; omega
          go_wp2_with (at_builtin; refine print_append w.heap.size rfl (.tmp 64) (.tmp 67) 59 9 (.string ⟨#[]⟩) 16 rfl Try.underlying59 infoS rfl (by decide) _ _ (.string s) rfl rfl rfl R1.out B2.out B2.out.size hml ?_; intro v6 w6 hr6 hb6 _ _; have R6 := Aside0.mk hr6; have B6 := Aside0.mk hb6; clear hr6 hb6)
          go_roundw
          case rel => exact ⟨i + 1, by omega, by simp, ⟨by rw [HT.out]; exact R6.out⟩, B6⟩
          case measure => simp [intOf]; omega
        · obtain rfl : i = l.length := by omega
          have hR := HR.out
          rw [List.take_length] at hR
          have HR2 := Aside0.mk hR
          clear hR
          go_wp2_with fail
          go_ret2
          exact ⟨_, rfl, by rw [HBl.out]; simpa [tv] using HR2.out, HBr.out⟩
end Go.Proofs.Ytlmnfnkjbgnklaa.Txn
end
