/- A transaction's data: all changes' contents, one behind the other. -/
import Derived.Test.YtlmnfnkjbgnklaaBuild
import Derived.Test.YtlmnfnkjbgnklaaTxn
set_option linter.unusedVariables false
set_option linter.unusedSimpArgs false
namespace Go.Proofs.Ytlmnfnkjbgnklaa.TxnS
open Go.RowKit Go.Proofs.YtlmnfnkjbgnklaaW.PrintWords Go.Proofs.Ytlmnfnkjbgnklaa.Spec
def dataL : List Ch → ByteArray
  | [] => ⟨#[]⟩
  | c :: l => c.2 ++ dataL l
theorem dataL_snoc : ∀ (l : List Ch) (c : Ch), dataL (l ++ [c]) = dataL l ++ c.2
  | [], c => by
    show c.2 ++ ByteArray.empty = ByteArray.empty ++ c.2
    rw [ByteArray.append_empty, ByteArray.empty_append]
  | d :: l, c => by rw [List.cons_append, dataL, dataL, dataL_snoc l c, ByteArray.append_assoc]
theorem dataL_take (l : List Ch) (i : Nat) (h : i < l.length) : dataL (l.take (i + 1)) = dataL (l.take i) ++ (l[i]).2 := by
  rw [List.take_succ_eq_append_getElem h, dataL_snoc]
theorem dataL_size (m : Nat) : ∀ (l : List Ch), (∀ c ∈ l, c.2.size ≤ m) → (dataL l).size ≤ m * l.length
  | [], _ => Nat.zero_le _
  | c :: l, h => by
    have h1 := dataL_size m l (fun x hx => h x (List.mem_cons_of_mem _ hx))
    have h2 := h c (List.mem_cons_self ..)
    rw [dataL, ByteArray.size_append, List.length_cons, Nat.mul_add]
    omega
end Go.Proofs.Ytlmnfnkjbgnklaa.TxnS
namespace Go.Proofs.Ytlmnfnkjbgnklaa.Txn
open Go.RowKit Go.Proofs.YtlmnfnkjbgnklaaW.PrintWords Go.Proofs.YtlmnfnkjbgnklaaW.PrintLast Go.Proofs.YtlmnfnkjbgnklaaW.PrintMore Go.Proofs.Ytlmnfnkjbgnklaa.TxnS
theorem builder_below {T e : TypeId} {B b : Nat} {bs : List Value} {w w' : World} (h : Lib.IsBuilder T e B b bs w) (hb : Below w.heap.size w w') : Lib.IsBuilder T e B b bs w' := by
  have key : ∀ p, Lib.BuilderAt T e B b p bs w → Lib.BuilderAt T e B b p bs w' := by
    rintro p ⟨hB, v, hbk, hown, hne⟩
    exact ⟨hB, v, (hb.block b (blk_lt hbk)).trans hbk, own_same hown (fun k hk => hb.block k (own_lt hown k hk)), hne⟩
  rcases h with h | h
  · exact .inl (key _ h)
  · exact .inr (key _ h)
theorem strCells_append (a b : ByteArray) : Lib.strCells (a ++ b) = Lib.strCells a ++ Lib.strCells b := by
  unfold Lib.strCells
  rw [ByteArray.data_append, Array.toList_append, List.map_append]
set_option maxHeartbeats 3200000 in
set_option maxRecDepth 100000 in
theorem data_calls (l : List Ch) (A : Option Addr) (c : Nat) (w : World) (h : Chs w A l) (hl : l.length ≤ 1000) (hs : ∀ x ∈ l, x.2.size ≤ 1000) : Calls Try.prog 63 #[.slice A l.length c] w fun e w' => e = .returned (.string (dataL l)) ∧ Below w.heap.size w w' := by
  have hu := Try.underlying69
  have H := Aside0.mk h
  have HS := Aside0.mk hs
  clear h hs
  have hb0 : (w.alloc (.cells #[.pointer none, .slice none 0 0] 125)).heap[w.heap.size]? = some (.cells #[.pointer none, .slice none 0 0] 125 (0, 0)) := blk_new w _
  have I0 : Aside0 (Lib.IsBuilder 125 5 w.heap.size w.heap.size (Lib.strCells (dataL (l.take 0))) (w.alloc (.cells #[.pointer none, .slice none 0 0] 125))) := ⟨.inl ⟨Nat.le_refl _, .slice none 0 0, hb0, own_nil _ _ _ _, by simp [Value.ownBlock]⟩⟩
  have B0 := Aside0.mk (below_alloc (Below.refl w.heap.size w) (.cells #[.pointer none, .slice none 0 0] 125))
  clear hb0
  go_enter Try.func63, Try.ntmps63
  go_wp2_with fail
  go_loopw [8] (fun v8 wr => ∃ i : Nat, i ≤ l.length ∧ v8 = .int .i64 (i : Int) ∧ Aside0 (Lib.IsBuilder 125 5 w.heap.size w.heap.size (Lib.strCells (dataL (l.take i))) wr) ∧ Aside0 (Below w.heap.size w wr)) (fun x _ => l.length - (intOf x).toNat)
  case atStart => exact ⟨0, by omega, rfl, I0, B0⟩
  case round =>
    clear I0 B0
    obtain ⟨i, hi, rfl, HI, HB⟩ := hrel
    by_cases hlt : i < l.length
    · obtain ⟨ad, rfl, e0, e1⟩ := (H.out.below HB.out) i hlt
      have ht := dataL_take l i hlt
      have hsz := HS.out _ (List.getElem_mem hlt)
      have hds := dataL_size 1000 (l.take i) (fun x hx => HS.out x (List.mem_of_mem_take hx))
      generalize l[i] = x at e0 e1 ht hsz
      obtain ⟨a, s⟩ := x
      have HT := Aside0.mk ht
      clear ht
      dsimp only at e0 e1 hsz
      have P1 := Aside0.mk (blk_new wr (.cells #[.int .i64 a, .string s] 69))
      have B1 := Aside0.mk (below_alloc (Below.refl wr.heap.size wr) (.cells #[.int .i64 a, .string s] 69))
      go_upto_region 5 with fail
      generalize hW : wr.alloc (.cells #[.int .i64 a, .string s] 69) = W1 at P1 B1 ⊢
      clear hW e0 e1
      have p1 := (blk_cell P1.out 1).trans (Eq.refl (some (Value.string s)))
      have HC := Aside0.mk (Build.writeString w.heap.size w.heap.size _ s W1 (builder_below HI.out B1.out) (by rw [Lib.strCells_length, List.length_take] at *; omega) (Nat.le_trans HB.out.size B1.out.size))
      have B2 := Aside0.mk (HB.out.trans (B1.out.mono HB.out.size))
      clear hds
      go_wp2_with fail
      refine HC.out.mono ?_
      rintro e w3 ⟨rfl, h3, hb3⟩
      have I3 : Aside0 (Lib.IsBuilder 125 5 w.heap.size w.heap.size (Lib.strCells (dataL (l.take (i + 1)))) w3) := ⟨.inr (by rw [HT.out, strCells_append]; exact h3)⟩
      have B3 := Aside0.mk (B2.out.trans hb3)
      clear h3 hb3
      go_wp2_with fail
      go_roundw
      case rel => exact ⟨i + 1, by omega, by simp, I3, B3⟩
      case measure => simp [intOf]; omega
    · obtain rfl : i = l.length := by omega
      have hI := HI.out
      rw [List.take_length] at hI
      have HC := Aside0.mk (Build.string_calls w.heap.size w.heap.size (dataL l) wr hI HB.out.size)
      clear hI
      go_wp2_with fail
      refine HC.out.mono ?_
      rintro e w3 ⟨rfl, hb3⟩
      have B3 := Aside0.mk (HB.out.trans hb3)
      clear hb3
      go_wp2_with fail
      go_ret
      exact ⟨rfl, B3.out⟩
end Go.Proofs.Ytlmnfnkjbgnklaa.Txn
