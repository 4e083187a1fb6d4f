/- What a step writes. -/
import Derived.Test.YtobhnababkpcbaaPtx2
import Derived.Test.YtobhnababkpcbaaDevSpec
set_option linter.unusedVariables false
set_option linter.unusedSimpArgs false
namespace Go.Proofs.Ytobhnababkpcbaa.DevS
open Go.RowKit Go.Proofs.YtobhnababkpcbaaW.PrintWords Go.Proofs.YtobhnababkpcbaaW.PrintLast Go.Proofs.Ytobhnababkpcbaa.Given Go.Proofs.Ytobhnababkpcbaa.Pt

theorem block_f (c : Int) : cartularylaw04_block.f c = some (blockB c) := rfl
theorem wrapN (n : Nat) (h : n < 9223372036854775808) : wrap64 (n : Int) = (n : Int) := by unfold wrap64; omega
theorem data_end (s : ByteArray) (hs : s.size ≤ 1152) (odd : Int) :
    (if odd > 0 then (if odd < 128 then (if 0 ≤ odd then (if (odd : Int).toNat ≤ 281474976710656 then ((some (List.replicate (odd : Int).toNat 0 : List Int)).bind fun y => (if s.size + (strOfNums y).size ≤ 9223372036854775807 then (some (s ++ (strOfNums y))) else (none))) else (none)) else (none)) else (some s)) else (some s)) = some (if 0 < odd ∧ odd < 128 then s ++ strOfNums (List.replicate odd.toNat 0) else s) := by
  by_cases h1 : odd > 0
  · by_cases h2 : odd < 128
    · rw [if_pos h1, if_pos h2, if_pos (by omega), if_pos (by omega), Option.bind_some, if_pos (by rw [strOfNums_size, List.length_replicate]; omega), if_pos ⟨h1, h2⟩]
    · rw [if_pos h1, if_neg h2, if_neg (fun h => h2 h.2)]
  · rw [if_neg h1, if_neg (fun h => h1 h.1)]
theorem data_l0 (k0 at' many odd torn c : Int) (l : List Bool) : ∀ (dd m : Nat), m + dd = min many.toNat 9 → cartularylaw04_data.l0 (dd + 1) (blocksB c m) (m : Int) k0 at' many odd torn c l = some (dataS many odd c)
  | 0, m, hm => by
    have hz : (blocksB c m).size ≤ 1152 := by rw [blocksB_size]; omega
    have he : m = min many.toNat 9 := by omega
    rw [cartularylaw04_data.l0]
    have fin := data_end (blocksB c m) hz odd
    by_cases h1 : (m : Int) < many
    · rw [if_pos h1, if_neg (by omega), fin, he]
      rfl
    · rw [if_neg h1, fin, he]
      rfl
  | dd + 1, m, hm => by
    have h9 : m < 9 := by omega
    have hmm : (m : Int) < many := by omega
    rw [cartularylaw04_data.l0, if_pos hmm, if_pos (by omega), block_f, Option.bind_some, if_pos (by rw [blocksB_size, blockB_size]; omega)]
    have e1 : wrap64 ((m : Int) + 1) = ((m + 1 : Nat) : Int) := by unfold wrap64; omega
    rw [e1]
    exact data_l0 k0 at' many odd torn c l dd (m + 1) (by omega)
theorem data_f (k0 at' many odd torn c : Int) (l : List Bool) : cartularylaw04_data.f (min many.toNat 9 + 1) k0 at' many odd torn c l = some (dataS many odd c) := by
  unfold cartularylaw04_data.f
  have := data_l0 k0 at' many odd torn c l (min many.toNat 9) 0 (by omega)
  exact this
theorem data_calls (k0 at' many odd torn c : Int) (A : Option Addr) (cp : Nat) (l : List Bool) (w : World) (hr : Kd.C Kd.bool w A l.length l) (hc : l.length ≤ cp) :
    Calls Try.prog 11 #[.agg #[.int .i64 k0, .int .i64 at', .int .i64 many, .int .i64 odd, .int .i64 torn, .int .u8 c, .slice A l.length cp]] w fun e w' => e = .returned (.string (dataS many odd c)) ∧ Below w.heap.size w w' :=
  cartularylaw04_data.calls _ k0 at' many odd torn c A cp l _ w hr hc (data_f k0 at' many odd torn c l)
end Go.Proofs.Ytobhnababkpcbaa.DevS
