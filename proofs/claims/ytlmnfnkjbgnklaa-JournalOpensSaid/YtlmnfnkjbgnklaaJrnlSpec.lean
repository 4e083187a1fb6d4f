/- What a journal is: plain functions, no program in sight. -/
import Derived.Test.YtlmnfnkjbgnklaaTxnD
set_option linter.unusedVariables false
set_option linter.unusedSimpArgs false
namespace Go.Proofs.Ytlmnfnkjbgnklaa.JS
open Go.RowKit Go.Proofs.YtlmnfnkjbgnklaaW.PrintWords Go.Proofs.Ytlmnfnkjbgnklaa.Spec Go.Proofs.Ytlmnfnkjbgnklaa.TxnS
structure Jr where
  ring : Int
  tail : Int
  first : Int
  sealed : Int
  sizes : List Nat
def sv (l : List Nat) : List Value := l.map fun (n : Nat) => Value.int .i64 (n : Int)
theorem sv_length (l : List Nat) : (sv l).length = l.length := by simp [sv]
theorem sv_get (l : List Nat) (i : Nat) (h : i < (sv l).length) : (sv l)[i] = .int .i64 ((l[i]'(by rw [sv_length] at h; exact h) : Nat) : Int) := by simp [sv]
structure JW (J : Jr) : Prop where
  r7 : 7 ≤ J.ring
  r255 : J.ring ≤ 255
  t0 : 0 ≤ J.tail
  tr : J.tail < J.ring
  f1 : 1 ≤ J.first
  fn : J.first + J.sizes.length ≤ 1099511628076
  s0 : 0 ≤ J.sealed
  sn : J.sealed ≤ J.sizes.length
  su : (J.sizes.sum : Int) ≤ J.ring
  pos : ∀ n ∈ J.sizes, 1 ≤ n
def newJ (n : Int) : Jr := ⟨n - 1, 0, 1, 0, []⟩
theorem newJ_ok {n : Int} (h1 : 8 ≤ n) (h2 : n ≤ 256) : JW (newJ n) := by
  constructor <;> simp [newJ] <;> omega
def headTx (J : Jr) : ByteArray := (⟨#[72]⟩ : ByteArray) ++ strOfNums (le J.tail 2 ++ le J.first 8 ++ le (J.first + J.sealed) 8)
theorem headTx_size (J : Jr) : (headTx J).size = 19 := by
  unfold headTx
  rw [ByteArray.size_append, strOfNums_size, List.length_append, List.length_append, le_length, le_length, le_length]
  rfl
def headJ (J : Jr) : ByteArray := (blockS (headTx J)).1
theorem sum_take_le (l : List Nat) (k : Nat) : (l.take k).sum ≤ l.sum := by
  have h := congrArg List.sum (List.take_append_drop k l)
  rw [List.sum_append] at h
  omega
theorem sum_take_succ (l : List Nat) (k : Nat) (h : k < l.length) : (l.take (k + 1)).sum = (l.take k).sum + l[k] := by
  rw [List.take_succ_eq_append_getElem h, List.sum_append]
  simp
theorem sum_drop (l : List Nat) (k : Nat) : (l.drop k).sum = l.sum - (l.take k).sum := by
  have h := congrArg List.sum (List.take_append_drop k l)
  rw [List.sum_append] at h
  omega
theorem len_le_sum : ∀ (l : List Nat), (∀ n ∈ l, 1 ≤ n) → l.length ≤ l.sum
  | [], _ => by simp
  | a :: l, h => by
    have := len_le_sum l (fun n hn => h n (List.mem_cons_of_mem _ hn))
    have := h a (List.mem_cons_self ..)
    simp only [List.length_cons, List.sum_cons]
    omega
def doneJ (J : Jr) (k : Nat) : Jr := ⟨J.ring, (J.tail + ((J.sizes.take k).sum : Int)) % J.ring, J.first + k, J.sealed - k, J.sizes.drop k⟩
theorem doneJ_ok {J : Jr} (h : JW J) (k : Nat) (hk : (k : Int) ≤ J.sealed) : JW (doneJ J k) := by
  have := h.r7; have := h.fn; have := h.sn; have := h.f1
  have hd := sum_drop J.sizes k
  have hs := sum_take_le J.sizes k
  have := h.su
  refine ⟨h.r7, h.r255, Int.emod_nonneg _ (by omega), Int.emod_lt_of_pos _ (by omega), ?_, ?_, ?_, ?_, ?_, fun n hn => h.pos n (List.mem_of_mem_drop hn)⟩
  · show 1 ≤ J.first + k; omega
  · show J.first + k + ((J.sizes.drop k).length : Int) ≤ _; rw [List.length_drop]; omega
  · show 0 ≤ J.sealed - k; omega
  · show J.sealed - k ≤ ((J.sizes.drop k).length : Int); rw [List.length_drop]; omega
  · show ((J.sizes.drop k).sum : Int) ≤ J.ring; omega
def sealJ (J : Jr) : Jr := { J with sealed := J.sizes.length }
theorem sealJ_ok {J : Jr} (h : JW J) : JW (sealJ J) := ⟨h.r7, h.r255, h.t0, h.tr, h.f1, h.fn, Int.natCast_nonneg _, Int.le_refl _, h.su, h.pos⟩
def pushJ (J : Jr) (n : Nat) : Jr := { J with sizes := J.sizes ++ [n] }
/-- Is there room for a transaction of so many changes? -/
def room (J : Jr) (n : Nat) : Prop := (J.sizes.sum : Int) + n + 1 ≤ J.ring ∧ J.first + J.sizes.length ≤ 1099511627776
instance (J : Jr) (n : Nat) : Decidable (room J n) := by unfold room; infer_instance
theorem pushJ_ok {J : Jr} (h : JW J) (n : Nat) (hr : room J n) : JW (pushJ J (n + 1)) := by
  have := h.fn; have := h.sn; have := hr.1; have := hr.2
  refine ⟨h.r7, h.r255, h.t0, h.tr, h.f1, ?_, h.s0, ?_, ?_, fun m hm => ?_⟩
  · show J.first + ((J.sizes ++ [n + 1]).length : Int) ≤ _; rw [List.length_append, List.length_singleton]; omega
  · show J.sealed ≤ ((J.sizes ++ [n + 1]).length : Int); rw [List.length_append, List.length_singleton]; omega
  · show ((J.sizes ++ [n + 1]).sum : Int) ≤ J.ring; rw [List.sum_append]; simp; omega
  · rcases List.mem_append.1 hm with hm | hm
    · exact h.pos m hm
    · simp at hm; omega
/-- Where blocks are written. -/
def wsA (ring at_ : Int) (bl : List ByteArray) : List Ch := bl.mapIdx fun i b => ((at_ + (i : Int)) % ring + 1, b)
theorem wsA_length (ring at_ : Int) (bl : List ByteArray) : (wsA ring at_ bl).length = bl.length := by simp [wsA]
theorem wsA_take (ring at_ : Int) (bl : List ByteArray) (i : Nat) (h : i < bl.length) : (wsA ring at_ bl).take (i + 1) = (wsA ring at_ bl).take i ++ [((at_ + (i : Int)) % ring + 1, bl[i])] := by
  rw [List.take_succ_eq_append_getElem (by rw [wsA_length]; exact h)]
  congr 2
  simp [wsA]
end Go.Proofs.Ytlmnfnkjbgnklaa.JS
