/- How a device lies in memory, and what its functions do. -/
import Derived.Test.YtobhnababkpcbaaDevSpec
import Derived.Test.YtobhnababkpcbaaMapF
import Derived.Test.YtobhnababkpcbaaWEqStruct
import Derived.Deep.RegionLawGrows
import Derived.Deep.RegionHeld3
set_option linter.unusedVariables false
set_option linter.unusedSimpArgs false
namespace Go.Proofs.Ytobhnababkpcbaa.Dev
open Go.RowKit Go.Proofs.YtobhnababkpcbaaW.PrintWords Go.Proofs.YtobhnababkpcbaaW.PrintLast Go.Proofs.YtobhnababkpcbaaW.PrintMore Go.Proofs.Ytobhnababkpcbaa.Maps Go.Proofs.Ytobhnababkpcbaa.DevS Go.Proofs.Ytobhnababkpcbaa.Given

def kp : Int → Value := fun x => .agg #[.int .i64 x]
def vs (f : F) : Int → Option Value := fun k => (f k).map Value.string
theorem vs_put (f : F) (k : Int) (v : ByteArray) : fput (vs f) k (.string v) = vs (DevS.put f k v) := by
  funext c
  unfold fput vs DevS.put
  split <;> rfl
theorem part_int (x : Int) (w : World) : (part 3 #[.int .i64 x] 0).run Try.prog w = .ok (.int .i64 x) w := by
  simp [part, go_sem, Try.underlying3]
theorem check_int (e : Bool) (n : Nat) (x : Int) (w : World) : (Instr.checkKey e (n + 1) 3 (.int .i64 x)).run Try.prog w = .ok () w := by
  unfold Instr.checkKey
  simp [run_underlying Try.underlying3, Result.andThen]
theorem check_place (e : Bool) (n : Nat) (x : Int) (w : World) : (Instr.checkKey e (n + 2) 62 (.agg #[.int .i64 x])).run Try.prog w = .ok () w := by
  have hc := check_int e n x w
  have hp := part_int x w
  rw [Instr.checkKey]
  simp [run_underlying Try.underlying62, hp, hc, Result.andThen]
theorem keyLaw : KeyLaw Try.prog 62 kp :=
  KeyLaw.place Try.underlying62 rfl rfl rfl Try.underlying3 (by kernel_rfl)
    (fun w x y => by
      have h := eqA_of (P := Try.prog) (w := w) (d := 9999) (xs := #[.int .i64 x]) (ys := #[.int .i64 y]) Try.underlying62 (by kernel_rfl) (eqf_last (by decide) (part_int x w) (part_int y w) (run_equalIn_int w 9998 3 .i64 .i64 x y Try.underlying3))
      exact h)
    (fun e w k => check_place e 9998 k w)
attribute [local go_sem] max2_int min2_int max_two min_two
structure Fr (w w' : World) (f : Nat → Prop) : Prop where
  os : w'.os = w.os
  tape : w'.tape = w.tape
  output : w'.output = w.output
  size : w.heap.size ≤ w'.heap.size
  block : ∀ k, k < w.heap.size → ¬ f k → w'.heap[k]? = w.heap[k]?
theorem Fr.refl (w : World) (f : Nat → Prop) : Fr w w f := ⟨rfl, rfl, rfl, Nat.le_refl _, fun _ _ _ => rfl⟩
theorem Fr.of_below {w w' : World} (h : Below w.heap.size w w') (f : Nat → Prop) : Fr w w' f := ⟨h.os, h.tape, h.output, h.size, fun k hk _ => h.block k hk⟩
theorem Fr.trans {w w1 w' : World} {f : Nat → Prop} (h : Fr w w1 f) {g : Nat → Prop} (k : Fr w1 w' g) (hg : ∀ i, g i → f i ∨ w.heap.size ≤ i) : Fr w w' f :=
  ⟨k.os.trans h.os, k.tape.trans h.tape, k.output.trans h.output, Nat.le_trans h.size k.size, fun i hi hn => (k.block i (Nat.lt_of_lt_of_le hi h.size) (fun hgi => by
    rcases hg i hgi with h2 | h2
    · exact hn h2
    · omega)).trans (h.block i hi hn)⟩
theorem Fr.below {B : Nat} {W w w' : World} {f : Nat → Prop} (hW : Below B W w) (h : Fr w w' f) (hf : ∀ k, f k → B ≤ k) (hB : B ≤ w.heap.size) : Below B W w' :=
  ⟨h.os.trans hW.os, h.tape.trans hW.tape, h.output.trans hW.output, Nat.le_trans hW.size h.size, fun i hi => (h.block i (by omega) (fun hk => by have := hf i hk; omega)).trans (hW.block i hi)⟩
theorem Fr.of_grown {w w' : World} {b : Nat} (h : w.grownBy w' (some b)) : Fr w w' (· = b) := ⟨h.os, h.tape, h.output, h.size, fun k hk hn => h.block k hk (by simpa using hn)⟩
theorem wrapN (n : Nat) (h : n < 9223372036854775808) : wrap64 (n : Int) = (n : Int) := by unfold wrap64; omega
set_option maxHeartbeats 1600000 in
set_option maxRecDepth 100000 in
theorem lay_calls (a : Int) (s : ByteArray) (mb : Nat) (cnt : Nat) (f : F) (w : World) (h : MapF w kp mb (vs f)) (ha : 0 ≤ a) (ha2 : a ≤ 1048576) (hs : s.size ≤ 1048576) (hc : cnt ≤ 1048576) :
    Calls Try.prog 24 #[.agg #[.int .i64 a, .string s], .map (some mb), .int .i64 cnt] w fun e w' => e = .returned (.tuple #[]) ∧ MapF w' kp mb (vs (layF f a s (min cnt (s.size / 128)))) ∧ Fr w w' (· = mb) := by
  have hu := Try.underlying58
  obtain ⟨m, hm⟩ : ∃ m, m = min cnt (s.size / 128) := ⟨_, rfl⟩
  have e1 : (s.size : Int).tdiv 128 = ((s.size / 128 : Nat) : Int) := rfl
  have e2 : wrap64 ((s.size / 128 : Nat) : Int) = ((s.size / 128 : Nat) : Int) := wrapN _ (by omega)
  have P0 := Aside0.mk (blk_new w (.cells #[.int .i64 a, .string s] 58))
  have M0 := Aside0.mk (h.of_block (w' := w.alloc (.cells #[.int .i64 a, .string s] 58)) (Below.heap_alloc _ _ _ h.lt))
  have HL := Aside0.mk h.lt
  clear h
  go_enter Try.func24, Try.ntmps24
  go_upto_region 1 with fail
  go_cut [12, 13] (fun v12 v13 wc => v12 = .int .i64 (m : Int) ∧ v13 = .int .i64 0 ∧ wc = w.alloc (.cells #[.int .i64 a, .string s] 58))
  case first =>
    go_wp2
    · go_meet
      case rel => exact ⟨by rw [hm]; congr 1; omega, rfl, rfl⟩
    · go_meet
      case rel => exact ⟨by rw [hm]; congr 1; omega, rfl, rfl⟩
  case rest =>
    obtain ⟨rfl, rfl, hw⟩ := hcut
    rw [← hw] at P0 M0
    have F0 : Aside0 (Below w.heap.size w wc) := ⟨by rw [hw]; exact below_alloc (Below.refl _ _) _⟩
    clear hw
    have hmm : m ≤ s.size / 128 := by rw [hm]; exact Nat.min_le_right _ _
    have HM := Aside0.mk hm
    clear hm
    go_wp2
    go_loopw [13] (fun v13 wr => ∃ i : Nat, i ≤ m ∧ v13 = .int .i64 (i : Int) ∧ Aside0 (MapF wr kp mb (vs (layF f a s i))) ∧ Aside0 (wr.heap[w.heap.size]? = some (.cells #[.int .i64 a, .string s] 58 (0, 0))) ∧ Aside0 (Fr w wr (· = mb))) (fun v _ => m - (intOf v).toNat)
    case atStart => exact ⟨0, by omega, rfl, M0, P0, ⟨Fr.of_below F0.out _⟩⟩
    case round =>
      obtain ⟨i, hi, rfl, HMap, HP, HF⟩ := hrel
      by_cases hlt : i < m
      · have c0 := (blk_cell HP.out 0).trans (Eq.refl (some (Value.int .i64 a)))
        have c1 := (blk_cell HP.out 1).trans (Eq.refl (some (Value.string s)))
        obtain ⟨x, hx⟩ : ∃ x : Nat, x = i * 128 := ⟨_, rfl⟩
        obtain ⟨y, hy⟩ : ∃ y : Nat, y = (i + 1) * 128 := ⟨_, rfl⟩
        have x1 : (i : Int) * 128 = (x : Int) := by omega
        have y1 : ((i : Int) + 1) * 128 = (y : Int) := by omega
        have w1 : IntKind.i64.wrap (a + (i : Int)) = a + (i : Int) := IntWalk.i64_in _ (by omega)
        have w2 : IntKind.i64.wrap ((i : Int) * 128) = (x : Int) := by rw [x1]; exact IntWalk.i64_in _ (by omega)
        have w3 : IntKind.i64.wrap ((i : Int) + 1) = (i : Int) + 1 := IntWalk.i64_in _ (by omega)
        have w4 : IntKind.i64.wrap (((i : Int) + 1) * 128) = (y : Int) := by rw [y1]; exact IntWalk.i64_in _ (by omega)
        have hb : s.extract x y = blk s i := by rw [hx, hy]; rfl
        have l1 : (x : Int) ≤ (y : Int) := by omega
        have l2 : (y : Int) ≤ (s.size : Int) := by omega
        clear x1 y1 hx hy
        obtain ⟨w2, hrun, hm2, hg2, hs2⟩ := (HMap.out.of_block (w' := wr.drew) rfl).update keyLaw Try.underlying53 (a + i) (.string (blk s i))
        replace hrun : (Instr.mapUpdate 53 (.map (some mb)) (.agg #[.int .i64 (a + (i : Int))]) (.string (blk s i))).run Try.prog wr.drew = .ok () w2 := hrun
        have M2 := Aside0.mk hm2
        have G2 := Aside0.mk hg2
        have HN : Aside0 (mb ≠ w.heap.size) := ⟨by have := HL.out; omega⟩
        clear hm2 hg2
        go_wp2
        go_region
        all_goals
          go_wp2
          go_roundw
          case rel =>
            refine ⟨i + 1, by omega, by simp, ⟨by have := M2.out; rw [vs_put] at this; exact this⟩, ⟨?_⟩, ⟨?_⟩⟩
            · rw [G2.out.block w.heap.size (blk_lt HP.out) (by simpa using fun h => HN.out h.symm)]
              exact HP.out
            · exact HF.out.trans (Fr.trans (Fr.of_below (w' := wr.drew) (below_drew1 (Below.refl _ _)) (· = mb)) (Fr.of_grown G2.out) (fun _ h => .inl h)) (fun _ h => .inl h)
          case measure => simp [intOf]; omega
      · obtain rfl : i = m := by omega
        go_wp2
        first | go_end0 | refine bodyPost_ret (results_none rfl _ _ _) rfl ?_
        exact ⟨rfl, by rw [← HM.out]; exact HMap.out, HF.out⟩
end Go.Proofs.Ytobhnababkpcbaa.Dev
