/- A block of one letter. -/
import Derived.Test.YtlmnfnkjbgnklaaProg
import Derived.Test.YtlmnfnkjbgnklaaWMore
import Derived.Laws.BytesArg
import Derived.Outline
set_option linter.unusedVariables false
set_option linter.unusedSimpArgs false
namespace Go.Proofs.Ytlmnfnkjbgnklaa.Blk
open Go.RowKit Go.Proofs.YtlmnfnkjbgnklaaW.PrintWords Go.Proofs.YtlmnfnkjbgnklaaW.PrintLast Go.Proofs.YtlmnfnkjbgnklaaW.PrintMore

theorem info5 : (Try.prog.info? 5).map (fun i => (i.zero, i.size, i.bytes)) = some (some (.int .u8 0), 1, 1) := by kernel_rfl
def blockB (c : Int) : ByteArray := strOfNums (List.replicate 128 c)
theorem blockB_size (c : Int) : (blockB c).size = 128 := by unfold blockB; rw [strOfNums_size, List.length_replicate]
/-- i letters are laid. -/
def filled (c : Int) (i : Nat) : List Int := List.replicate i c ++ List.replicate (128 - i) 0
theorem filled_length (c : Int) (i : Nat) (h : i ≤ 128) : (filled c i).length = 128 := by simp [filled]; omega
theorem filled_set (c : Int) (i : Nat) (h : i < 128) : (filled c i).set i c = filled c (i + 1) := by
  unfold filled
  obtain ⟨m, hm⟩ : ∃ m, 128 - i = m + 1 := ⟨127 - i, by omega⟩
  rw [hm, show 128 - (i + 1) = m by omega, List.set_append_right _ _ (by simp), List.replicate_succ]
  simp [List.replicate_succ']
theorem nums_get (k : IntKind) (l : List Int) (j : Nat) (h : j < l.length) : (nums k l).toArray[j]? = some (.int k (l.getD j 0)) := by
  simp [nums, List.getElem?_eq_getElem h]
theorem filled_all (c : Int) : filled c 128 = List.replicate 128 c := by unfold filled; rw [Nat.sub_self, List.replicate_zero, List.append_nil]
set_option maxHeartbeats 800000 in
set_option maxRecDepth 100000 in
theorem block_any (c : Int) (w : World) : Calls Try.prog 29 #[.int .u8 c] w fun e w' => e = .returned (.string (blockB c)) ∧ Below w.heap.size w w' := by
  have km := print_make (P := Try.prog) 100 5 .u8 1 Try.underlying100 info5 (by decide) 128 (by omega)
  have P0 := Aside0.mk (blk_new w (.cells (nums .u8 (filled c 0)).toArray 5))
  have hm : madeCells #[Value.int .u8 0] 128 = (nums .u8 (filled c 0)).toArray := by kernel_rfl
  rw [hm] at km
  clear hm
  replace km : ∀ W : World, (Instr.makeSlice 100 (.int .i64 128) (.int .i64 128)).run Try.prog W = .ok (.slice (some ⟨W.heap.size, 0, none⟩) 128 128) (W.alloc (.cells (nums .u8 (filled c 0)).toArray 5)) := km
  go_enter Try.func29, Try.ntmps29
  go_wp2
  go_loopw [8] (fun v8 wr => ∃ i : Nat, i ≤ 128 ∧ v8 = .int .i64 (i : Int) ∧ Aside0 (wr.heap[w.heap.size]? = some (.cells (nums .u8 (filled c i)).toArray 5 (0, 0))) ∧ Aside0 (Below w.heap.size w wr)) (fun v _ => 128 - (intOf v).toNat)
  case atStart => exact ⟨0, by omega, rfl, P0, ⟨below_alloc (Below.refl _ _) _⟩⟩
  case round =>
    obtain ⟨i, hi, rfl, HP, HB⟩ := hrel
    by_cases hlt : i < 128
    · have k1 := blk_cell HP.out i
      have k2 := blk_frozen HP.out i
      have k3 := nums_get .u8 (filled c i) i (by rw [filled_length c i hi]; exact hlt)
      rw [k3] at k1
      clear k3
      go_wp2
      go_roundw
      case rel => exact ⟨i + 1, by omega, by simp, ⟨by
        rw [blk_set HP.out i _, ← filled_set c i hlt]
        simp [nums]⟩, ⟨HB.out.setCell (Nat.le_refl _) _⟩⟩
      case measure => simp [intOf]; omega
    · obtain rfl : i = 128 := by omega
      have kb := run_convert_bytes_arg (P := Try.prog) wr 100 5 Try.underlying100 Try.underlying5 w.heap.size 0 128 128 (List.replicate 128 c) List.length_replicate (fun j hj => by
        rw [Nat.zero_add, blk_cell HP.out j]
        rw [filled_all, nums_get .u8 _ j (by rw [List.length_replicate]; exact hj)]) 9 Try.underlying9
      go_wp2
      go_ret
      exact ⟨rfl, HB.out⟩
def cartularylaw07_block.f (c : Int) : Option ByteArray := some (blockB c)
theorem cartularylaw07_block.calls (a0 : Int) (r : ByteArray) (w : World) (h : cartularylaw07_block.f a0 = some r) :
    Calls Try.prog 29 #[.int .u8 a0] w fun e w' => e = .returned (.string r) ∧ Below w.heap.size w w' := by
  rw [← Option.some.inj h]
  exact block_any a0 w
end Go.Proofs.Ytlmnfnkjbgnklaa.Blk
