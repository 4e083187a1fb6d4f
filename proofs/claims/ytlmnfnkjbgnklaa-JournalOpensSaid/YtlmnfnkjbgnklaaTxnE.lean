/- A transaction's head and its blocks: head, Encode. -/
import Derived.Test.YtlmnfnkjbgnklaaTxnD
import Derived.Test.YtlmnfnkjbgnklaaTxnC
import Derived.Test.YtlmnfnkjbgnklaaSumC
import Derived.Test.YtlmnfnkjbgnklaaWriter
set_option linter.unusedVariables false
set_option linter.unusedSimpArgs false
namespace Go.Proofs.Ytlmnfnkjbgnklaa.TxnS
open Go.RowKit Go.Proofs.YtlmnfnkjbgnklaaW.PrintWords Go.Proofs.Ytlmnfnkjbgnklaa.Spec
def numsL (l : List Ch) : List Int := l.flatMap fun c => le c.1 2
theorem numsL_take (l : List Ch) (i : Nat) (h : i < l.length) : numsL (l.take (i + 1)) = numsL (l.take i) ++ le (l[i]).1 2 := by
  unfold numsL
  rw [List.take_succ_eq_append_getElem h, List.flatMap_append, List.flatMap_cons, List.flatMap_nil, List.append_nil]
theorem numsL_length (l : List Ch) : (numsL l).length = 2 * l.length := by
  induction l with
  | nil => rfl
  | cons c l ih =>
    have : numsL (c :: l) = le c.1 2 ++ numsL l := rfl
    rw [this, List.length_append, ih, le_length, List.length_cons]
    omega
def headN (seq : Int) (l : List Ch) : List Int := le seq 8 ++ le l.length 1 ++ numsL l ++ le (crc (dataL l)) 4
def headT (seq : Int) (l : List Ch) : ByteArray := (⟨#[84]⟩ : ByteArray) ++ strOfNums (headN seq l)
theorem headT_size (seq : Int) (l : List Ch) : (headT seq l).size = 14 + 2 * l.length := by
  unfold headT headN
  rw [ByteArray.size_append, strOfNums_size]
  simp only [List.length_append, le_length, numsL_length]
  show 1 + _ = _
  omega
def headS (seq : Int) (l : List Ch) : ByteArray := (blockS (headT seq l)).1
def blocksL (seq : Int) (l : List Ch) : List ByteArray := headS seq l :: l.map Prod.snd
def encS (seq : Int) (l : List Ch) : List ByteArray × Int :=
  if seq < 1 ∨ 1099511627776 < seq then ([], 1) else if ¬ right l then ([], 70) else (blocksL seq l, 0)
/-- Changes that a head can be made of. -/
def fits (l : List Ch) : Prop := l.length ≤ 48 ∧ ∀ c ∈ l, 0 ≤ c.1 ∧ c.1 < 1024 ∧ c.2.size = 128
theorem right_fits {l : List Ch} (h : right l) : fits l := ⟨h.2, fun c hc => by have := rightL_all (-1) l h.1 c hc; exact ⟨by omega, this.2⟩⟩
end Go.Proofs.Ytlmnfnkjbgnklaa.TxnS
namespace Go.Proofs.Ytlmnfnkjbgnklaa.Txn
open Go.RowKit Go.Proofs.YtlmnfnkjbgnklaaW.PrintWords Go.Proofs.YtlmnfnkjbgnklaaW.PrintLast Go.Proofs.YtlmnfnkjbgnklaaW.PrintMore Go.Proofs.Ytlmnfnkjbgnklaa.TxnS Go.Proofs.Ytlmnfnkjbgnklaa.Spec
set_option maxHeartbeats 3200000 in
set_option maxRecDepth 100000 in
theorem head_calls (seq : Int) (l : List Ch) (A : Option Addr) (c : Nat) (w : World) (h : Chs w A l) (hf : fits l) (h0 : 0 ≤ seq) (h1 : seq ≤ 1099511627776) : Calls Try.prog 47 #[.int .i64 seq, .slice A l.length c] w fun e w' => e = .returned (.string (headS seq l)) ∧ Below w.heap.size w w' := by
  have hu := Try.underlying69
  have H := Aside0.mk h
  have HF := Aside0.mk hf
  have hl := hf.1
  clear h hf
  go_enter Try.func47, Try.ntmps47
  go_wp2_with fail
  refine (Codec.new_any _).mono ?_
  rintro e w1 ⟨g, rfl, hI, hB⟩
  have HI1 := Aside0.mk hI
  have HB1 := Aside0.mk hB
  clear hI hB
  go_wp2_with fail
  refine (Codec.fixed_8 seq w.heap.size g [] w1 HI1.out (by simp) h0 (by omega)).mono ?_
  rintro e w2 ⟨rfl, hI, hB, _⟩
  have HI2 := Aside0.mk hI
  have HB2 := Aside0.mk (HB1.out.trans hB)
  clear hI hB HI1 HB1
  go_wp2_with fail
  refine (Codec.fixed_1 l.length w.heap.size g _ w2 HI2.out (by simp [le_length]) (by omega) (by omega)).mono ?_
  rintro e w3 ⟨rfl, hI, hB, _⟩
  have HI3 : Aside0 (Codec.IsW w3 w.heap.size g (le seq 8 ++ le l.length 1 ++ numsL (l.take 0))) := ⟨by simpa [numsL] using hI⟩
  have HB3 := Aside0.mk (HB2.out.trans hB)
  clear hI hB HI2 HB2
  go_wp2_with fail
  go_loopw [20] (fun v20 wr => ∃ i : Nat, i ≤ l.length ∧ v20 = .int .i64 (i : Int) ∧ Aside0 (Codec.IsW wr w.heap.size g (le seq 8 ++ le l.length 1 ++ numsL (l.take i))) ∧ Aside0 (Below w.heap.size w wr)) (fun x _ => l.length - (intOf x).toNat)
  case atStart => exact ⟨0, by omega, rfl, HI3, HB3⟩
  case round =>
    clear HI3 HB3
    obtain ⟨i, hi, rfl, HI, HB⟩ := hrel
    by_cases hlt : i < l.length
    · obtain ⟨ad, rfl, e0, e1⟩ := (H.out.below HB.out) i hlt
      have ht := numsL_take l i hlt
      have hc := HF.out.2 _ (List.getElem_mem hlt)
      generalize l[i] = x at e0 e1 ht hc
      obtain ⟨a, s⟩ := x
      have HT := Aside0.mk ht
      clear ht
      dsimp only at e0 e1 hc
      obtain ⟨hc0, hc1, _⟩ := hc
      have P1 := Aside0.mk (blk_new wr (.cells #[.int .i64 a, .string s] 69))
      have B1 := Aside0.mk (below_alloc (Below.refl wr.heap.size wr) (.cells #[.int .i64 a, .string s] 69))
      go_upto_region 7 with fail
      generalize hW : wr.alloc (.cells #[.int .i64 a, .string s] 69) = W1 at P1 B1 ⊢
      clear hW e0 e1
      have p0 := (blk_cell P1.out 0).trans (Eq.refl (some (Value.int .i64 a)))
      have HC := Aside0.mk (Codec.fixed_2 a w.heap.size g _ W1 (HI.out.below B1.out) (by simp only [List.length_append, le_length, numsL_length, List.length_take]; omega) hc0 (by omega))
      have B2 := Aside0.mk (HB.out.trans (B1.out.mono HB.out.size))
      go_wp2_with fail
      refine HC.out.mono ?_
      rintro e w4 ⟨rfl, hI, hB, _⟩
      have HI4 : Aside0 (Codec.IsW w4 w.heap.size g (le seq 8 ++ le l.length 1 ++ numsL (l.take (i + 1)))) := ⟨by rw [HT.out, ← List.append_assoc]; exact hI⟩
      have HB4 := Aside0.mk (B2.out.trans hB)
      clear hI hB
      go_wp2_with fail
      go_roundw
      case rel => exact ⟨i + 1, by omega, by simp, HI4, HB4⟩
      case measure => simp [intOf]; omega
    · obtain rfl : i = l.length := by omega
      have hI := HI.out
      rw [List.take_length] at hI
      have HI2 := Aside0.mk hI
      have HD := Aside0.mk (data_calls l A c wr (H.out.below HB.out) (by omega) (fun x hx => by have := (HF.out.2 x hx).2.2; omega))
      have hds := dataL_size 128 l (fun x hx => by have := (HF.out.2 x hx).2.2; omega)
      have hcr := crc_lt (dataL l)
      have hE : (⟨#[84]⟩ : ByteArray) ++ strOfNums (le seq 8 ++ le l.length 1 ++ numsL l ++ le (crc (dataL l)) 4) = headT seq l := rfl
      have HK := Aside0.mk (fun W => C.sum_Of.calls (dataL l) (crc (dataL l)) W (C.lim_ok _ (by omega)))
      clear hI HI hds
      have HTs := Aside0.mk (headT_size seq l)
      have HH : Aside0 (headS seq l = (blockS (headT seq l)).1) := ⟨rfl⟩
      generalize dataL l = dl at HD hcr hE HK
      generalize crc dl = cr at hcr hE HK
      generalize headT seq l = hT at hE HTs HH
      obtain ⟨hS, hSe⟩ : ∃ x, x = headS seq l := ⟨_, rfl⟩
      have HSe := Aside0.mk hSe
      rw [← hSe] at HH
      clear hSe
      go_wp2_with fail
      refine HD.out.mono ?_
      rintro e w4 ⟨rfl, hB⟩
      have HI4 := Aside0.mk (HI2.out.below hB)
      have HB4 := Aside0.mk (HB.out.trans (hB.mono HB.out.size))
      clear hB HI2
      go_wp2_with fail
      refine (HK.out _).mono ?_
      rintro e w5 ⟨rfl, hD⟩
      have HI5 := Aside0.mk (HI4.out.below hD.below)
      have HB5 := Aside0.mk (HB4.out.trans (hD.below.mono HB4.out.size))
      clear hD HI4
      go_wp2_with fail
      refine (Codec.fixed_4 cr w.heap.size g _ w5 HI5.out (by simp only [List.length_append, le_length, numsL_length]; omega) (by omega) (by omega)).mono ?_
      rintro e w6 ⟨rfl, hI, hB, _⟩
      have HI6 := Aside0.mk hI
      have HB6 := Aside0.mk (HB5.out.trans hB)
      clear hI hB HI5
      go_wp2_with fail
      refine (Codec.out_any w.heap.size g _ w6 HI6.out).mono ?_
      generalize strOfNums (le seq 8 ++ le l.length 1 ++ numsL l ++ le cr 4) = L at hE
      have hLs : L.size ≤ 200 := by have h1 := HTs.out; rw [← hE, ByteArray.size_append] at h1; omega
      rintro e w7 ⟨rfl, rfl⟩
      have HX := Aside0.mk (C.sum_Block.calls ((⟨#[84]⟩ : ByteArray) ++ L) hS (blockS hT).2 w6 (by rw [hE, HH.out]; exact C.lim_ok _ (by rw [HTs.out]; omega)))
      clear hE HI6
      go_wp2_with fail
      refine HX.out.mono ?_
      rintro e w8 ⟨rfl, hB⟩
      have HB8 := Aside0.mk (HB6.out.trans (hB.mono HB6.out.size))
      clear hB
      go_wp2_with fail
      go_ret
      exact ⟨by rw [← HSe.out]; rfl, HB8.out⟩
theorem enc_no1 (seq : Int) (r : Value) (w : World) (h : seq < 1 ∨ 1099511627776 < seq) : Calls Try.prog 31 #[.int .i64 seq, r] w fun e w' => e = .returned (.tuple #[.slice none 0 0, .int .i64 1]) ∧ Below w.heap.size w w' := by
  by_cases h1 : seq < 1
  · have b1 : decide (seq < 1) = true := decide_eq_true h1
    go_enter Try.func31, Try.ntmps31
    go_wp2_with fail
    go_ret2
    exact ⟨rfl, Below.refl _ _⟩
  · have b1 : decide (seq < 1) = false := decide_eq_false h1
    have b2 : decide (seq > 1099511627776) = true := decide_eq_true (by omega)
    go_enter Try.func31, Try.ntmps31
    go_wp2_with fail
    go_ret2
    exact ⟨rfl, Below.refl _ _⟩
theorem enc_no2 (seq : Int) (l : List Ch) (A : Option Addr) (c : Nat) (w : World) (h : Chs w A l) (hl : l.length ≤ 1125899906842624) (h0 : 1 ≤ seq) (h1 : seq ≤ 1099511627776) (hr : ¬ right l) : Calls Try.prog 31 #[.int .i64 seq, .slice A l.length c] w fun e w' => e = .returned (.tuple #[.slice none 0 0, .int .i64 70]) ∧ Below w.heap.size w w' := by
  have b1 : decide (seq < 1) = false := decide_eq_false (by omega)
  have b2 : decide (seq > 1099511627776) = false := decide_eq_false (by omega)
  have HC := Aside0.mk (check_calls l A c w h hl)
  rw [show chk l = 70 from if_neg hr] at HC
  clear h hr
  go_enter Try.func31, Try.ntmps31
  go_wp2_with fail
  refine HC.out.mono ?_
  rintro e w1 ⟨rfl, hB⟩
  have HB := Aside0.mk hB
  clear hB
  go_wp2_with fail
  go_ret2
  exact ⟨rfl, by first | exact HB.out | exact below_drew1 HB.out⟩
theorem infoS : (Try.prog.info? 9).map (fun i => (i.zero, i.size, i.bytes)) = some (some (.string ⟨#[]⟩), 1, 16) := by kernel_rfl
def tv (l : List ByteArray) : List Value := l.map Value.string
set_option maxHeartbeats 3200000 in
set_option maxRecDepth 100000 in
theorem enc_yes (seq : Int) (l : List Ch) (A : Option Addr) (c : Nat) (w : World) (h : Chs w A l) (h0 : 1 ≤ seq) (h1 : seq ≤ 1099511627776) (hr : right l) : Calls Try.prog 31 #[.int .i64 seq, .slice A l.length c] w fun e w' => ∃ v, e = .returned (.tuple #[v, .int .i64 0]) ∧ w'.ownsRow w.heap.size 9 1 v (blocksL seq l).length (tv (blocksL seq l)) ∧ Below w.heap.size w w' := by
  have hu := Try.underlying69
  have b1 : decide (seq < 1) = false := decide_eq_false (by omega)
  have b2 : decide (seq > 1099511627776) = false := decide_eq_false (by omega)
  have hl : l.length ≤ 48 := hr.2
  have HC := Aside0.mk (check_calls l A c w h (by omega))
  rw [show chk l = 0 from if_pos hr] at HC
  have H := Aside0.mk h
  have HF := Aside0.mk (right_fits hr)
  clear h hr
  go_enter Try.func31, Try.ntmps31
  go_wp2_with fail
  refine HC.out.mono ?_
  rintro e w1 ⟨rfl, hB⟩
  have HB := Aside0.mk hB
  clear hB
  go_upto_region 6 with fail
  have HH : Aside0 (∀ W, Below w.heap.size w W → Calls Try.prog 47 #[.int .i64 seq, .slice A l.length c] W fun e w' => e = .returned (.string (headS seq l)) ∧ Below W.heap.size W w') := ⟨fun W hb => head_calls seq l A c W (H.out.below hb) HF.out (by omega) h1⟩
  obtain ⟨hS, hSe⟩ : ∃ x, x = headS seq l := ⟨_, rfl⟩
  have HE : Aside0 (blocksL seq l = hS :: l.map Prod.snd) := ⟨by rw [hSe]; rfl⟩
  rw [← hSe] at HH
  clear hSe
  go_wp2_with fail
  refine (HH.out _ (by first | exact HB.out | exact below_drew1 HB.out)).mono ?_
  rintro e w2 ⟨rfl, hb2⟩
  have T2 : Aside0 (Below w.heap.size w w2) := ⟨by first | exact HB.out.trans (hb2.mono HB.out.size) | exact HB.out.trans (below_step (below_drew1 (Below.refl _ _)) hb2 |>.mono HB.out.size)⟩
  clear hb2
  have R3 : Aside0 ((w2.alloc (.cells #[.string hS] 9)).ownsRow w.heap.size 9 1 (.slice (some ⟨w2.heap.size, 0, none⟩) 1 1) (tv (hS :: (l.take 0).map Prod.snd)).length (tv (hS :: (l.take 0).map Prod.snd))) := ⟨World.ownsRow_lit w2 #[.string hS] 1 T2.out.size (by decide) rfl⟩
  have B3 := Aside0.mk (below_alloc T2.out (.cells #[.string hS] 9))
  go_wp2_with fail
  go_loopw [7, 27] (fun v7 v27 wr => ∃ i : Nat, i ≤ l.length ∧ v27 = .int .i64 (i : Int) ∧ Aside0 (wr.ownsRow w.heap.size 9 1 v7 (tv (hS :: (l.take i).map Prod.snd)).length (tv (hS :: (l.take i).map Prod.snd))) ∧ Aside0 (Below w.heap.size w wr)) (fun _ x _ => l.length - (intOf x).toNat)
  case atStart => exact ⟨0, by omega, rfl, R3, B3⟩
  case round =>
    clear R3 B3 T2
    obtain ⟨i, hi, rfl, HR, HBr⟩ := hrel
    by_cases hlt : i < l.length
    · obtain ⟨ad, rfl, e0, e1⟩ := (H.out.below HBr.out) i hlt
      have ht : tv (hS :: (l.take (i + 1)).map Prod.snd) = tv (hS :: (l.take i).map Prod.snd) ++ [.string (l[i]).2] := by
        unfold tv
        rw [List.take_succ_eq_append_getElem hlt, List.map_append, ← List.cons_append, List.map_append]
        rfl
      generalize l[i] = x at e0 e1 ht
      obtain ⟨a, s⟩ := x
      have HT := Aside0.mk ht
      clear ht
      dsimp only at e0 e1
      have P1 := Aside0.mk (blk_new wr (.cells #[.int .i64 a, .string s] 69))
      have B1 := Aside0.mk (below_alloc (Below.refl wr.heap.size wr) (.cells #[.int .i64 a, .string s] 69))
      go_upto_region 10 with fail
      generalize hW : wr.alloc (.cells #[.int .i64 a, .string s] 69) = W1 at P1 B1 ⊢
      clear hW e0 e1
      have p1 := (blk_cell P1.out 1).trans (Eq.refl (some (Value.string s)))
      have R1 := Aside0.mk (pw_own_below HR.out B1.out)
      have B2 := Aside0.mk (HBr.out.trans (B1.out.mono HBr.out.size))
      have hml : ((tv (hS :: (l.take i).map Prod.snd)).length + 1) * 16 ≤ 140737488355328 := by simp only [tv, List.length_map, List.length_cons, List.length_take]; omega
      go_wp2_with (at_builtin; refine print_append w.heap.size rfl (.tmp 31) (.tmp 34) 59 9 (.string ⟨#[]⟩) 16 rfl Try.underlying59 infoS rfl (by decide) _ _ (.string s) rfl rfl rfl R1.out B2.out B2.out.size hml ?_; intro v6 w6 hr6 hb6 _ _; have R6 := Aside0.mk hr6; have B6 := Aside0.mk hb6; clear hr6 hb6)
      go_roundw
      case rel => exact ⟨i + 1, by omega, by simp, ⟨by rw [HT.out]; exact R6.out⟩, B6⟩
      case measure => simp [intOf]; omega
    · obtain rfl : i = l.length := by omega
      have hR := HR.out
      rw [List.take_length] at hR
      have HR2 := Aside0.mk hR
      clear hR
      go_wp2_with fail
      go_ret2
      exact ⟨_, rfl, by rw [HE.out]; simpa [tv] using HR2.out, HBr.out⟩
end Go.Proofs.Ytlmnfnkjbgnklaa.Txn
