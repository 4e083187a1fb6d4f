/- The walk of the law SumMixed: three texts xored byte by byte. -/
import Derived.Test.YtgolpihbkjadkaaPureSumTurned
import Derived.Deep.RegionHeld3
set_option linter.unusedVariables false
set_option linter.unusedSimpArgs false
namespace Go.Proofs.Ytgolpihbkjadkaa.Core
open Go.RowKit Go.Proofs.YtgolpihbkjadkaaW.PrintWords Go.Proofs.YtgolpihbkjadkaaW.PrintLast Go.Proofs.YtgolpihbkjadkaaW.PrintMore Go.Proofs.Ytgolpihbkjadkaa.Spec Go.Proofs.Ytgolpihbkjadkaa.C Go.Proofs.Ytgolpihbkjadkaa.Codec

def mixB (a b c : ByteArray) (j : Nat) : Int := Go.bits .xor .u8 (Go.bits .xor .u8 (bt a (j : Int)) (bt b (j : Int))) (bt c (j : Int))
def mixL (a b c : ByteArray) (n : Nat) : List Int := (List.range n).map (mixB a b c)
theorem mixL_length (a b c : ByteArray) (n : Nat) : (mixL a b c n).length = n := by simp [mixL]
theorem mixL_succ (a b c : ByteArray) (n : Nat) : mixL a b c (n + 1) = mixL a b c n ++ [mixB a b c n] := by
  unfold mixL
  rw [List.range_succ, List.map_append]
  rfl
def MixOk (a b c : ByteArray) (n : Nat) : Prop := ((crc (strOfNums (mixL a b c n)) : Int) == Go.bits .xor .i64 (Go.bits .xor .i64 (crc (a.extract 0 n) : Int) (crc (b.extract 0 n) : Int)) (crc (c.extract 0 n) : Int)) = true

theorem xor_join (k b n : Nat) (hb : b < 2 ^ k) : b + 2 ^ k * n = b ^^^ (2 ^ k * n) := by
  have h := nat_join k (2 ^ k * n) b (Nat.mul_mod_right _ _) hb
  apply Nat.eq_of_testBit_eq
  intro i
  have e : b + 2 ^ k * n = 2 ^ k * n ||| b := by rw [h]; omega
  rw [e, Nat.testBit_or, Nat.testBit_xor, Nat.testBit_two_pow_mul]
  by_cases hi : k ≤ i
  · have : b.testBit i = false := Nat.testBit_lt_two_pow (Nat.lt_of_lt_of_le hb (Nat.pow_le_pow_right (by omega) hi))
    simp [this]
  · simp [hi]
theorem num_snoc : ∀ (l : List UInt8) (b : UInt8), num (l ++ [b]) = num l + 2 ^ (8 * l.length) * b.toNat
  | [], b => by simp [num]
  | x :: l, b => by
    rw [List.cons_append, num, num, num_snoc l b, List.length_cons, show 8 * (l.length + 1) = 8 + 8 * l.length from by omega, Nat.pow_add, Nat.mul_add, Nat.mul_assoc]
    omega
theorem num_snoc_xor (l : List UInt8) (b : UInt8) : num (l ++ [b]) = num l ^^^ 2 ^ (8 * l.length) * b.toNat := by rw [num_snoc, xor_join _ _ _ (num_lt l)]
theorem mix_num (a b c : ByteArray) : ∀ n, n ≤ a.size → n ≤ b.size → n ≤ c.size → num (strOfNums (mixL a b c n)).data.toList = num (a.data.toList.take n) ^^^ num (b.data.toList.take n) ^^^ num (c.data.toList.take n)
  | 0, _, _, _ => by simp [mixL, strOfNums, num]
  | n + 1, ha, hb, hc => by
    have step : ∀ s : ByteArray, n + 1 ≤ s.size → ∃ x : UInt8, bt s (n : Int) = (x.toNat : Int) ∧ s.data.toList.take (n + 1) = s.data.toList.take n ++ [x] := by
      intro s h
      have hl : n < s.data.toList.length := by rw [Array.length_toList]; exact h
      exact ⟨s[n]'h, bt_nat s n h, by rw [List.take_add_one, List.getElem?_eq_getElem hl]; rfl⟩
    have len : ∀ s : ByteArray, n + 1 ≤ s.size → (s.data.toList.take n).length = n := by
      intro s h
      rw [List.length_take, Array.length_toList]
      have : s.data.size = s.size := rfl
      omega
    obtain ⟨x, hx, ex⟩ := step a ha
    obtain ⟨y, hy, ey⟩ := step b hb
    obtain ⟨z, hz, ez⟩ := step c hc
    have hm : mixB a b c n = ((x.toNat ^^^ y.toNat ^^^ z.toNat : Nat) : Int) := by
      unfold mixB
      rw [hx, hy, hz, u8_xor_nat _ _ x.toNat_lt y.toNat_lt, u8_xor_nat _ _ (Nat.xor_lt_two_pow (n := 8) x.toNat_lt y.toNat_lt) z.toNat_lt]
    have hb8 : x.toNat ^^^ y.toNat ^^^ z.toNat < 256 := Nat.xor_lt_two_pow (n := 8) (Nat.xor_lt_two_pow (n := 8) x.toNat_lt y.toNat_lt) z.toNat_lt
    have e : (strOfNums (mixL a b c (n + 1))).data.toList = (strOfNums (mixL a b c n)).data.toList ++ [UInt8.ofNat (x.toNat ^^^ y.toNat ^^^ z.toNat)] := by
      rw [mixL_succ, strOfNums_data, strOfNums_data, List.map_append, hm]
      rfl
    have hl : (strOfNums (mixL a b c n)).data.toList.length = n := by rw [← size_eq, strOfNums_size, mixL_length]
    have hofn : (UInt8.ofNat (x.toNat ^^^ y.toNat ^^^ z.toNat)).toNat = x.toNat ^^^ y.toNat ^^^ z.toNat := by show _ % 256 = _; exact Nat.mod_eq_of_lt hb8
    rw [e, ex, ey, ez, num_snoc_xor, num_snoc_xor, num_snoc_xor, num_snoc_xor, len a ha, len b hb, len c hc, hl, hofn, mix_num a b c n (by omega) (by omega) (by omega), Given.mul_xor, Given.mul_xor]
    generalize num (a.data.toList.take n) = p
    generalize num (b.data.toList.take n) = q
    generalize num (c.data.toList.take n) = r
    generalize 2 ^ (8 * n) * x.toNat = u
    generalize 2 ^ (8 * n) * y.toNat = v
    generalize 2 ^ (8 * n) * z.toNat = t
    apply Nat.eq_of_testBit_eq
    intro i
    simp only [Nat.testBit_xor]
    cases p.testBit i <;> cases q.testBit i <;> cases r.testBit i <;> cases u.testBit i <;> cases v.testBit i <;> cases t.testBit i <;> rfl
theorem mix_ok (a b c : ByteArray) (n : Nat) (ha : n ≤ a.size) (hb : n ≤ b.size) (hc : n ≤ c.size) : MixOk a b c n := by
  have ex : ∀ s : ByteArray, (s.extract 0 n).data.toList = s.data.toList.take n := by
    intro s
    rw [Go.Lib.extract_data]
    simp
  have sz : ∀ s : ByteArray, n ≤ s.size → (s.extract 0 n).size = (strOfNums (mixL a b c n)).size := by
    intro s h
    rw [ByteArray.size_extract, strOfNums_size, mixL_length]
    omega
  have h := mixed_sum (strOfNums (mixL a b c n)) (a.extract 0 n) (b.extract 0 n) (c.extract 0 n) (sz a ha) (sz b hb) (sz c hc) (by rw [ex, ex, ex]; exact mix_num a b c n ha hb hc)
  unfold MixOk
  have l1 := crc_lt (a.extract 0 n)
  have l2 := crc_lt (b.extract 0 n)
  have l3 := crc_lt (c.extract 0 n)
  have l4 := xor_lt32 l1 l2
  rw [i64_xor_nat _ _ (by omega) (by omega), i64_xor_nat _ _ (by omega) (by omega), h]
  simp
/-- What is kept in the last region: the row's text, and its block. -/
def Km (k : Nat) (xs : List Int) (wc : World) (v : Value) (w : World) : Prop := (convert 34 9 v).run Try.prog w = .ok (.string (strOfNums xs)) w ∧ w.ownsRow wc.heap.size 5 1 v k (nums .u8 xs) ∧ Below wc.heap.size wc w
theorem Km.mk {k : Nat} {xs : List Int} {wc w : World} {v : Value} (h : w.ownsRow wc.heap.size 5 1 v k (nums .u8 xs)) (hB : Below wc.heap.size wc w) : Km k xs wc v w := ⟨own_string Try.underlying34 Try.underlying5 Try.underlying9 h, h, hB⟩
theorem Km.below {k : Nat} {xs : List Int} {wc w w1 : World} {v : Value} (h : Km k xs wc v w) (hb : Below w.heap.size w w1) : Km k xs wc v w1 := Km.mk (pw_own_below h.2.1 hb) (h.2.2.trans (hb.mono h.2.2.size))
theorem Km.drawn {k : Nat} {xs : List Int} {wc w w1 : World} {v : Value} (h : Km k xs wc v w) (hb : Drawn0 w w1) : Km k xs wc v w1 := by
  obtain ⟨m, rfl⟩ := hb
  exact h.below (pw_below_drewN (Below.refl _ _) m)

set_option maxHeartbeats 1600000 in
set_option maxRecDepth 100000 in
theorem SumMixed (W : World) (a : ByteArray) (ha : a.size ≤ 140737488351232) (b : ByteArray) (hb : b.size ≤ 140737488351232) (c : ByteArray) (hc : c.size ≤ 140737488351232) :
    Calls Try.prog 7 #[.string a, .string b, .string c] W fun e W' => e = .returned (.bool true) ∧ Below W.heap.size W W' := by
  obtain ⟨n1, hn1⟩ : ∃ n : Nat, n = if b.size < a.size then b.size else a.size := ⟨_, rfl⟩
  obtain ⟨n, hn⟩ : ∃ n : Nat, n = if c.size < n1 then c.size else n1 := ⟨_, rfl⟩
  have HN1 := Aside0.mk hn1
  have HN := Aside0.mk hn
  clear hn1 hn
  go_enter Try.func7, Try.ntmps7
  go_upto_if 15 with fail
  go_cut [7] (fun v7 wc => v7 = .int .i64 (n1 : Int) ∧ wc = W)
  case first =>
    rcases Bool.eq_false_or_eq_true (decide (b.size < a.size)) with h | h
    · rw [h]
      go_wp2
      go_meet
      case rel => exact ⟨by rw [HN1.out, if_pos (by simpa using h)], rfl⟩
    · rw [h]
      go_wp2
      go_meet
      case rel => exact ⟨by rw [HN1.out, if_neg (by simpa using h)], rfl⟩
  case rest =>
    obtain ⟨rfl, rfl⟩ := hcut
    go_upto_if 21 with fail
    go_cut [7] (fun v7 w1 => v7 = .int .i64 (n : Int) ∧ w1 = wc)
    case first =>
      rcases Bool.eq_false_or_eq_true (decide (c.size < n1)) with h | h
      · rw [h]
        go_wp2
        go_meet
        case rel => exact ⟨by rw [HN.out, if_pos (by simpa using h)], rfl⟩
      · rw [h]
        go_wp2
        go_meet
        case rel => exact ⟨by rw [HN.out, if_neg (by simpa using h)], rfl⟩
    case rest =>
      obtain ⟨rfl, rfl⟩ := hcut
      have hna : n ≤ a.size := by have h1 := HN.out; have h2 := HN1.out; split at h1 <;> split at h2 <;> omega
      have hnb : n ≤ b.size := by have h1 := HN.out; have h2 := HN1.out; split at h1 <;> split at h2 <;> omega
      have hnc : n ≤ c.size := by have h1 := HN.out; have h2 := HN1.out; split at h1 <;> split at h2 <;> omega
      clear HN HN1
      go_wp2
      go_loopw [8, 9] (fun v8 v9 wr => ∃ k : Nat, k ≤ n ∧ v9 = .int .i64 (k : Int) ∧ Aside0 (wr.ownsRow wc.heap.size 5 1 v8 k (nums .u8 (mixL a b c k))) ∧ Aside0 (Below wc.heap.size wc wr)) (fun _ c _ => n - (intOf c).toNat)
      case atStart => exact ⟨0, by omega, rfl, ⟨own_nil _ _ _ _⟩, ⟨Below.refl _ _⟩⟩
      case round =>
        obtain ⟨k, hk, rfl, HO, HB⟩ := hrel
        by_cases hlt : k < n
        · obtain ⟨x, hx⟩ : ∃ x : Int, x = (k : Int) := ⟨_, rfl⟩
          have px : 0 ≤ x := by omega
          have qa : x < (a.size : Int) := by omega
          have qb : x < (b.size : Int) := by omega
          have qc : x < (c.size : Int) := by omega
          have ba := bt_at a x
          have bb := bt_at b x
          have bc := bt_at c x
          have hxn : x < (n : Int) := by omega
          rw [← hx]
          have HX := Aside0.mk hx
          have HL := Aside0.mk hlt
          clear hx hlt hk
          replace px := eq_true px
          replace qa := eq_true qa
          replace qb := eq_true qb
          replace qc := eq_true qc
          obtain ⟨i0, hi, hz0, hz1, hz2⟩ := info_parts info5
          have hbs : wc.heap.size ≤ wr.heap.size := HB.out.size
          have hk1 : k + 1 ≤ 140737488355328 := by have := HL.out; omega
          have HO' := Aside0.mk HO.out
          go_wp2
          go_region_law (refine step_append_lies _ rfl (.tmp 29) (.tmp 41) 34 rfl wc.heap.size 5 i0 (.int .u8 0) 1 1 Try.underlying34 hi hz0 hz1 hz2 rfl (by decide) _ _ _ rfl ((HO'.out.alloc _).drew) ⟨wr.heap.size, 0, none⟩ 1 1 [_] rfl rfl (cell_one_new _ _ _) (by simp [Value.oneCell']) (by omega) (by simp only [maxLen]; omega) (by omega) (by simp; omega) _ rfl ?_; intro g2 cap w1 hown1 hgrow1 hat hlt; have A1 := Aside0.mk hown1; have A2 := Aside0.mk hgrow1; clear hown1 hgrow1 hat hlt)
          all_goals
            have R1 : Aside0 (Below wc.heap.size wc w1) := ⟨((HB.out.alloc hbs _).drew).grown A2.out (by simp; omega) (own_base HO.out)⟩
            have R2 : Aside0 (w1.ownsRow wc.heap.size 5 1 (.slice (some ⟨g2, 0, none⟩) (k + 1) cap) (k + 1) (nums .u8 (mixL a b c (k + 1)))) := ⟨by
              have h := A1.out
              rw [HX.out] at h
              rw [mixL_succ]
              simpa [nums, mixB] using h⟩
            clear A1 A2 HO HO' HB
            go_wp2
            go_roundw
            case rel => exact ⟨k + 1, by have := HL.out; omega, by rw [HX.out, wrap_id (by omega) (by omega)]; rfl, R2, R1⟩
            case measure => rw [HX.out, wrap_id (by omega) (by omega)]; simp [intOf]; have := HL.out; omega
        · obtain rfl : k = n := by omega
          have e0 : (0 : Int) ≤ (k : Int) := by omega
          have ea : (k : Int) ≤ (a.size : Int) := by omega
          have eb : (k : Int) ≤ (b.size : Int) := by omega
          have ec : (k : Int) ≤ (c.size : Int) := by omega
          go_wp2
          have HS : Aside0 (Km k (mixL a b c k) wc u8 wr) := ⟨Km.mk HO.out HB.out⟩
          have HK := Aside0.mk (fun w1 w2 => @Km.below k (mixL a b c k) wc w1 w2 u8)
          have HD := Aside0.mk (fun w1 w2 => @Km.drawn k (mixL a b c k) wc w1 w2 u8)
          have hm : MixOk a b c k := mix_ok a b c k hna hnb hnc
          unfold MixOk at hm
          have q1 := fun w => sum_Of.calls (strOfNums (mixL a b c k)) _ w (lim_ok _ (by rw [strOfNums_size, mixL_length]; omega))
          have q2 := fun w => sum_Of.calls (a.extract 0 k) _ w (lim_ok _ (by rw [ByteArray.size_extract]; omega))
          have q3 := fun w => sum_Of.calls (b.extract 0 k) _ w (lim_ok _ (by rw [ByteArray.size_extract]; omega))
          have q4 := fun w => sum_Of.calls (c.extract 0 k) _ w (lim_ok _ (by rw [ByteArray.size_extract]; omega))
          have Q1 := Aside0.mk q1
          have Q2 := Aside0.mk q2
          have Q3 := Aside0.mk q3
          have Q4 := Aside0.mk q4
          clear q1 q2 q3 q4 HO HB
          go_region_held3 (fun w' => (convert 34 9 u8).run Try.prog w' = .ok (.string (strOfNums (mixL a b c k))) w' ∧ w'.ownsRow wc.heap.size 5 1 u8 k (nums .u8 (mixL a b c k)) ∧ Below wc.heap.size wc w')
            (first | exact HS.out.below (below_drew1 (Below.refl _ _)) | exact HS.out | exact HK.out _ _ (by assumption) hbb | exact HD.out _ _ (by assumption) hbb)
            ((first
              | (go_at_call 10; first | ((with_reducible refine (Q1.out _).mono ?_); rintro e w' ⟨rfl, hbb⟩) | ((with_reducible refine (Q2.out _).mono ?_); rintro e w' ⟨rfl, hbb⟩) | ((with_reducible refine (Q3.out _).mono ?_); rintro e w' ⟨rfl, hbb⟩) | ((with_reducible refine (Q4.out _).mono ?_); rintro e w' ⟨rfl, hbb⟩))
              | (go_at_call 14; (with_reducible refine (Pt.cartularylaw03_speaks.calls _ _ Pure.speaks_ok).mono ?_); rintro e w' ⟨rfl, hbb⟩)))
          obtain ⟨_, _, hB⟩ : Km k (mixL a b c k) wc u8 w' := by assumption
          go_wp2
          go_ret
          exact ⟨rfl, hB⟩
end Go.Proofs.Ytgolpihbkjadkaa.Core
