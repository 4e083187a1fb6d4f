/- The walk of the law TxnTwo. -/
import Derived.Test.YtofiblkeihchmaaTxnOpen
set_option linter.unusedVariables false
set_option linter.unusedSimpArgs false
namespace Go.Proofs.Ytofiblkeihchmaa.TxnS
def lastD (k : Int) (s : ByteArray) (l : List Ch) : ByteArray := l.foldl (fun s c => if c.1 = k then c.2 else s) s
theorem lastD_take (k : Int) (s : ByteArray) (l : List Ch) (i : Nat) (h : i < l.length) : lastD k s (l.take (i + 1)) = if (l[i]).1 = k then (l[i]).2 else lastD k s (l.take i) := by
  unfold lastD
  rw [List.take_succ_eq_append_getElem h, List.foldl_append]
  rfl
theorem lastD_all (k : Int) : ∀ (l : List Ch) (f : FS), lastD k ((f k).getD ⟨#[]⟩) l = (allF f l k).getD ⟨#[]⟩
  | [], f => rfl
  | c :: l, f => by
    have e1 : allF f (c :: l) = allF (putF f c) l := rfl
    have e2 : lastD k ((f k).getD ⟨#[]⟩) (c :: l) = lastD k (if c.1 = k then c.2 else (f k).getD ⟨#[]⟩) l := rfl
    rw [e1, e2, ← lastD_all k l (putF f c)]
    congr 1
    unfold putF
    split <;> rfl
theorem two_law {a b : List Ch} (h : (merS a b).2 = 0) (k : Int) : lastD k ⟨#[]⟩ (merS a b).1 = lastD k (lastD k ⟨#[]⟩ a) b := by
  obtain ⟨ra, rb, e, _⟩ := merS_ok h
  have h1 : lastD k ⟨#[]⟩ a = (allF none0 a k).getD ⟨#[]⟩ := lastD_all k a none0
  have h2 : lastD k ((allF none0 a k).getD ⟨#[]⟩) b = (merF a b k).getD ⟨#[]⟩ := lastD_all k b (allF none0 a)
  have h3 : lastD k ⟨#[]⟩ (listF (merF a b)) = (allF none0 (listF (merF a b)) k).getD ⟨#[]⟩ := lastD_all k _ none0
  rw [e, h3, allF_listF (mer_small ra rb), h1, h2]
end Go.Proofs.Ytofiblkeihchmaa.TxnS
namespace Go.Proofs.Ytofiblkeihchmaa.Core
open Go.RowKit Go.Proofs.YtofiblkeihchmaaW.PrintWords Go.Proofs.YtofiblkeihchmaaW.PrintLast Go.Proofs.YtofiblkeihchmaaW.PrintMore Go.Proofs.Ytofiblkeihchmaa.TxnS Go.Proofs.Ytofiblkeihchmaa.Txn
set_option maxHeartbeats 6400000 in
set_option maxRecDepth 100000 in
theorem txnTwo (W : World) (a b : List Ch) (A B : Option Addr) (c1 c2 : Nat) (k : Int) (ha : Chs W A a) (hb : Chs W B b) (hla : a.length ≤ 1125899906842624) (hlb : b.length ≤ 1125899906842624) :
    Calls Try.prog 5 #[.slice A a.length c1, .slice B b.length c2, .int .i64 k] W fun e W' => e = .returned (.bool true) ∧ Below W.heap.size W W' := by
  have hu := Try.underlying39
  have HA := Aside0.mk ha
  have HB := Aside0.mk hb
  have HM1 := Aside0.mk (merge_calls a b A B c1 c2 W ha hb hla hlb)
  clear ha hb
  have HS := Aside0.mk speaks_calls
  by_cases h0 : (merS a b).2 = 0
  · have HR1 := Aside0.mk (merS_ok h0)
    have H3 := Aside0.mk (two_law h0 k)
    rw [h0] at HM1
    clear h0
    obtain ⟨x, hx⟩ : ∃ x, x = (merS a b).1 := ⟨_, rfl⟩
    rw [← hx] at HM1 HR1 H3
    have hxl : x.length ≤ 48 := HR1.out.2.2.2.2
    clear hx
    go_enter Try.func5, Try.ntmps5
    go_wp2_with fail
    refine HM1.out.mono ?_
    rintro e w1 ⟨v1, rfl, hr, hB⟩
    obtain ⟨X, cx, rfl⟩ := own_slice hr
    have X1 := Aside0.mk (own_chs hr rfl)
    have B1 := Aside0.mk hB
    clear hr hB HM1
    go_wp2_with fail
    go_loopw [9, 33] (fun v9 v33 wr => ∃ i : Nat, i ≤ a.length ∧ v33 = .int .i64 (i : Int) ∧ v9 = .string (lastD k ⟨#[]⟩ (a.take i)) ∧ Aside0 (Below w1.heap.size w1 wr)) (fun _ x _ => a.length - (intOf x).toNat)
    case atStart => exact ⟨0, by omega, rfl, rfl, ⟨Below.refl _ _⟩⟩
    case round =>
      obtain ⟨i, hi, rfl, rfl, HBr⟩ := hrel
      by_cases hlt : i < a.length
      · obtain ⟨ad, rfl, e0, e1⟩ := ((HA.out.below B1.out).below HBr.out) i hlt
        have ht := lastD_take k ⟨#[]⟩ a i hlt
        generalize a[i] = q at e0 e1 ht
        obtain ⟨n, s⟩ := q
        generalize lastD k ⟨#[]⟩ (a.take i) = s0 at ht ⊢
        have HT := Aside0.mk ht
        clear ht
        dsimp only at e0 e1
        have P1 := Aside0.mk (blk_new wr (.cells #[.int .i64 n, .string s] 39))
        have B2 := Aside0.mk (HBr.out.trans ((below_alloc (Below.refl wr.heap.size wr) (.cells #[.int .i64 n, .string s] 39)).mono HBr.out.size))
        go_upto_region 9 with fail
        generalize hW : wr.alloc (.cells #[.int .i64 n, .string s] 39) = W1 at P1 B2 ⊢
        clear hW e0 e1
        have p0 := (blk_cell P1.out 0).trans (Eq.refl (some (Value.int .i64 n)))
        have p1 := (blk_cell P1.out 1).trans (Eq.refl (some (Value.string s)))
        by_cases g : n = k
        · have q : (n == k) = true := by simp [g]
          have HT2 : Aside0 (lastD k ⟨#[]⟩ (a.take (i + 1)) = s) := ⟨by rw [HT.out, if_pos g]⟩
          clear g
          go_wp2_with fail
          go_roundw
          case rel => exact ⟨i + 1, by omega, by simp, by rw [HT2.out], B2⟩
          case measure => simp [intOf]; omega
        · have q : (n == k) = false := by simp [g]
          have HT2 : Aside0 (lastD k ⟨#[]⟩ (a.take (i + 1)) = s0) := ⟨by rw [HT.out, if_neg g]⟩
          clear g
          go_wp2_with fail
          go_roundw
          case rel => exact ⟨i + 1, by omega, by simp, by rw [HT2.out], B2⟩
          case measure => simp [intOf]; omega
      · obtain rfl : i = a.length := by omega
        rw [List.take_length]
        generalize hs1 : lastD k ⟨#[]⟩ a = s1 at H3 ⊢
        clear hs1
        have B2 := HBr
        clear HBr
        go_wp2_with fail
        go_loopw [9, 46] (fun v9 v46 wq => ∃ i : Nat, i ≤ b.length ∧ v46 = .int .i64 (i : Int) ∧ v9 = .string (lastD k s1 (b.take i)) ∧ Aside0 (Below w1.heap.size w1 wq)) (fun _ x _ => b.length - (intOf x).toNat)
        case atStart => exact ⟨0, by omega, rfl, rfl, B2⟩
        case round =>
          clear B2
          obtain ⟨i, hi, rfl, rfl, HBr⟩ := hrel
          by_cases hlt : i < b.length
          · obtain ⟨ad, rfl, e0, e1⟩ := ((HB.out.below B1.out).below HBr.out) i hlt
            have ht := lastD_take k s1 b i hlt
            generalize b[i] = q at e0 e1 ht
            obtain ⟨n, s⟩ := q
            generalize lastD k s1 (b.take i) = s0 at ht ⊢
            have HT := Aside0.mk ht
            clear ht
            dsimp only at e0 e1
            have P1 := Aside0.mk (blk_new wr (.cells #[.int .i64 n, .string s] 39))
            have B2 := Aside0.mk (HBr.out.trans ((below_alloc (Below.refl wr.heap.size wr) (.cells #[.int .i64 n, .string s] 39)).mono HBr.out.size))
            go_upto_region 15 with fail
            generalize hW : wr.alloc (.cells #[.int .i64 n, .string s] 39) = W1 at P1 B2 ⊢
            clear hW e0 e1
            have p0 := (blk_cell P1.out 0).trans (Eq.refl (some (Value.int .i64 n)))
            have p1 := (blk_cell P1.out 1).trans (Eq.refl (some (Value.string s)))
            by_cases g : n = k
            · have q : (n == k) = true := by simp [g]
              have HT2 : Aside0 (lastD k s1 (b.take (i + 1)) = s) := ⟨by rw [HT.out, if_pos g]⟩
              clear g
              go_wp2_with fail
              go_roundw
              case rel => exact ⟨i + 1, by omega, by simp, by rw [HT2.out], B2⟩
              case measure => simp [intOf]; omega
            · have q : (n == k) = false := by simp [g]
              have HT2 : Aside0 (lastD k s1 (b.take (i + 1)) = s0) := ⟨by rw [HT.out, if_neg g]⟩
              clear g
              go_wp2_with fail
              go_roundw
              case rel => exact ⟨i + 1, by omega, by simp, by rw [HT2.out], B2⟩
              case measure => simp [intOf]; omega
          · obtain rfl : i = b.length := by omega
            rw [List.take_length]
            generalize hs2 : lastD k s1 b = s2 at H3 ⊢
            clear hs2
            have B2 := HBr
            clear HBr
            go_wp2_with fail
            go_loopw [10, 59] (fun v10 v59 wq => ∃ i : Nat, i ≤ x.length ∧ v59 = .int .i64 (i : Int) ∧ v10 = .string (lastD k ⟨#[]⟩ (x.take i)) ∧ Aside0 (Below w1.heap.size w1 wq)) (fun _ x' _ => x.length - (intOf x').toNat)
            case atStart => exact ⟨0, by omega, rfl, rfl, B2⟩
            case round =>
              clear B2
              obtain ⟨i, hi, rfl, rfl, HBr⟩ := hrel
              by_cases hlt : i < x.length
              · obtain ⟨ad, rfl, e0, e1⟩ := (X1.out.below HBr.out) i hlt
                have ht := lastD_take k ⟨#[]⟩ x i hlt
                generalize x[i] = q at e0 e1 ht
                obtain ⟨n, s⟩ := q
                generalize lastD k ⟨#[]⟩ (x.take i) = s0 at ht ⊢
                have HT := Aside0.mk ht
                clear ht
                dsimp only at e0 e1
                have P1 := Aside0.mk (blk_new wr (.cells #[.int .i64 n, .string s] 39))
                have B2 := Aside0.mk (HBr.out.trans ((below_alloc (Below.refl wr.heap.size wr) (.cells #[.int .i64 n, .string s] 39)).mono HBr.out.size))
                go_upto_region 21 with fail
                generalize hW : wr.alloc (.cells #[.int .i64 n, .string s] 39) = W1 at P1 B2 ⊢
                clear hW e0 e1
                have p0 := (blk_cell P1.out 0).trans (Eq.refl (some (Value.int .i64 n)))
                have p1 := (blk_cell P1.out 1).trans (Eq.refl (some (Value.string s)))
                by_cases g : n = k
                · have q : (n == k) = true := by simp [g]
                  have HT2 : Aside0 (lastD k ⟨#[]⟩ (x.take (i + 1)) = s) := ⟨by rw [HT.out, if_pos g]⟩
                  clear g
                  go_wp2_with fail
                  go_roundw
                  case rel => exact ⟨i + 1, by omega, by simp, by rw [HT2.out], B2⟩
                  case measure => simp [intOf]; omega
                · have q : (n == k) = false := by simp [g]
                  have HT2 : Aside0 (lastD k ⟨#[]⟩ (x.take (i + 1)) = s0) := ⟨by rw [HT.out, if_neg g]⟩
                  clear g
                  go_wp2_with fail
                  go_roundw
                  case rel => exact ⟨i + 1, by omega, by simp, by rw [HT2.out], B2⟩
                  case measure => simp [intOf]; omega
              · obtain rfl : i = x.length := by omega
                rw [List.take_length, H3.out]
                have HC := Aside0.mk (check_calls x X cx wr (X1.out.below HBr.out) (by omega))
                rw [show chk x = 0 from if_pos HR1.out.2.2.2] at HC
                have qn : (s2.toList == s2.toList) = true := by simp
                clear H3
                go_wp2_with fail
                refine HC.out.mono ?_
                rintro e w5 ⟨rfl, hB⟩
                have B5 := Aside0.mk (HBr.out.trans (hB.mono HBr.out.size))
                clear hB HC
                go_wp2_with fail
                refine (HS.out _).mono ?_
                rintro e w8 ⟨rfl, hB⟩
                have B8 := Aside0.mk (B5.out.trans (hB.mono B5.out.size))
                clear hB
                go_wp2_with fail
                go_ret
                exact ⟨rfl, B1.out.trans (B8.out.mono B1.out.size)⟩
  · have HN := Aside0.mk (merS_no h0)
    have q0 : ((merS a b).2 != 0) = true := by simp [h0]
    clear h0
    generalize merS a b = p at HM1 HN q0
    obtain ⟨pl, pe⟩ := p
    dsimp only at HM1 HN q0
    rw [HN.out] at HM1
    go_enter Try.func5, Try.ntmps5
    go_wp2_with fail
    refine HM1.out.mono ?_
    rintro e w1 ⟨v1, rfl, hr, hB⟩
    replace hr : w1.ownsRow W.heap.size 39 2 v1 0 (cv []) := hr
    obtain ⟨X, cx, rfl⟩ := own_slice hr
    have B1 := Aside0.mk hB
    clear hr hB HM1
    go_wp2_with fail
    refine (HS.out _).mono ?_
    rintro e w8 ⟨rfl, hB⟩
    have B8 := Aside0.mk (B1.out.trans (hB.mono B1.out.size))
    clear hB
    go_wp2_with fail
    go_ret
    exact ⟨rfl, B8.out⟩
theorem TxnTwo (W : World) (A : Option Addr) (n c1 : Nat) (a : List Ch) (h1 : (Kd.slice 39 chK).K W a [.slice A n c1]) (g1 : goodL a) (B : Option Addr) (m c2 : Nat) (b : List Ch) (h2 : (Kd.slice 39 chK).K W b [.slice B m c2]) (g2 : goodL b) (k : Int) (hw : (Lit.int .i64 k).wf = true) :
    Calls Try.prog 5 #[.slice A n c1, .slice B m c2, .int .i64 k] W fun e W' => e = .returned (.bool true) ∧ Below W.heap.size W W' := by
  obtain ⟨rfl, ha⟩ := chs_of h1
  obtain ⟨rfl, hb⟩ := chs_of h2
  exact txnTwo W a b A B c1 c2 k ha hb (by have := g1.1; omega) (by have := g2.1; omega)
end Go.Proofs.Ytofiblkeihchmaa.Core
