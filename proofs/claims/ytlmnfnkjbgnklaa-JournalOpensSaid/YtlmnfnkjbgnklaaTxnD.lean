/- strings.Builder: what it holds. A transaction's data: all changes' contents, one behind the other. -/
import Derived.Shelf.Strings.Builder1
import Derived.Test.YtlmnfnkjbgnklaaTxn
import Derived.Test.YtlmnfnkjbgnklaaLayB
section
/- strings.Builder: what it holds. -/
set_option linter.unusedVariables false
set_option linter.unusedSimpArgs false
namespace Go.Proofs.Ytlmnfnkjbgnklaa.Build
open Go.Proofs Go.Shelf Go.RowKit Go.Proofs.YtlmnfnkjbgnklaaW.PrintWords
theorem sizeBuilder : (Try.prog.info? 125).map (·.size) = some 2 := by kernel_rfl
theorem liesBuilder : liesAt Try.prog Try.prog.depth 125 (2 / Try.prog.cellsOf 125) 0 125 1 = true := by kernel_rfl
theorem infoByte : (Try.prog.info? 5).map (fun i => (i.zero, i.size, i.bytes)) = some (some (.int .u8 0), 1, 1) := by kernel_rfl
theorem extra : Builder.Extra Try.prog LayB.bString_ren := {
  sizeBuilder := by kernel_rfl,
  liesBuilder := by kernel_rfl,
  t5 := Try.underlying5,
  a5 := Try.isAgg5,
  z5 := Try.sizeOf5,
  v5 := Try.zeroValue5,
  infoByte := by kernel_rfl,
  cellsByte := by kernel_rfl,
  sizeByte := by kernel_rfl,
  neB5 := by decide }
set_option maxHeartbeats 1000000 in
set_option maxRecDepth 100000 in
theorem copyCheck_used (b : Nat) (w : World) (h0 : w.cell? ⟨b, 0, none⟩ = some (.pointer (some ⟨b, 0, none⟩))) :
    Calls Try.prog 71 #[.pointer (some ⟨b, 0, none⟩)] w fun e w' => e = .returned (.tuple #[]) ∧ w' = w := by
  obtain ⟨j, hj, _⟩ := Option.map_eq_some_iff.1 sizeBuilder
  have hu := Try.underlying125
  have hup := Try.underlying123
  go_enter Try.func71, Try.ntmps71
  go_wp2
  rw [Lib.run_neq_ptr_same w _ Try.underlying123 hj]
  go_wp2
  go_end0
  exact ⟨rfl, rfl⟩
set_option maxHeartbeats 1000000 in
set_option maxRecDepth 100000 in
theorem copyCheck_fresh (b : Nat) (w : World) (h0 : w.cell? ⟨b, 0, none⟩ = some (.pointer none)) (hsh : w.shape? b = some (125, 2)) (hfz : w.frozen? ⟨b, 0, none⟩ = false) :
    Calls Try.prog 71 #[.pointer (some ⟨b, 0, none⟩)] w fun e w' => e = .returned (.tuple #[]) ∧ w' = w.setCell ⟨b, 0, none⟩ (.pointer (some ⟨b, 0, none⟩)) := by
  obtain ⟨j, hj, hjs⟩ := Option.map_eq_some_iff.1 sizeBuilder
  have hu := Try.underlying125
  have hup := Try.underlying123
  go_enter Try.func71, Try.ntmps71
  go_wp2
  rw [Lib.run_to_unsafe w ⟨b, 0, none⟩ Try.underlying123 Try.underlying132 hj (by rw [hjs]; decide) hsh (Nat.zero_lt_succ 1)]
  simp only [Result.andThen]
  rw [Oper.upon_value]
  go_wp2
  rw [run_callFunc_extern Try.func72 (by kernel_rfl) (by kernel_rfl) (by kernel_rfl) (e := Extern.AbiNoEscape.same) (by kernel_rfl)]
  rw [Lib.run_noEscape]
  simp only [Result.andThen]
  rw [Oper.upon_value]
  go_wp2
  rw [Lib.run_from_unsafe w ⟨b, 0, none⟩ Try.underlying132 Try.underlying123 hj hsh liesBuilder]
  simp only [Result.andThen]
  rw [Oper.upon_value]
  go_wp2
  go_end0
  exact ⟨rfl, rfl⟩
abbrev T84 : TypeId := 125
theorem copyCheck (B b : Nat) (bs : List Value) (w : World) (h : Lib.IsBuilder 125 5 B b bs w) :
    Calls Try.prog 71 #[.pointer (some ⟨b, 0, none⟩)] w fun e w' => e = .returned (.tuple #[]) ∧ (Lib.BuilderAt 125 5 B b (.pointer (some ⟨b, 0, none⟩)) bs w' ∧ Below B w w') := by
  rcases h with h | h
  · refine (copyCheck_fresh b w h.cell0 h.shape h.frozen0).mono ?_
    rintro e w' ⟨rfl, rfl⟩
    exact ⟨rfl, h.used _, (Below.refl B w).setCell (p := ⟨b, 0, none⟩) h.1 _⟩
  · refine (copyCheck_used b w h.cell0).mono ?_
    rintro e w' ⟨rfl, rfl⟩
    exact ⟨rfl, h, Below.refl B _⟩
set_option maxHeartbeats 2000000 in
set_option maxRecDepth 100000 in
theorem writeString (B b : Nat) (bs : List Value) (s : ByteArray) (w : World) (h : Lib.IsBuilder 125 5 B b bs w) (hlen : bs.length + s.size ≤ 140737488355328) (hBw : B ≤ w.heap.size) :
    Calls Try.prog 68 #[.pointer (some ⟨b, 0, none⟩), .string s] w fun e w' => e = .returned (.tuple #[.int .i64 s.size, .nilIface]) ∧ (Lib.BuilderAt 125 5 B b (.pointer (some ⟨b, 0, none⟩)) (bs ++ Lib.strCells s) w' ∧ Below B w w') := by
  obtain ⟨i0, hi, hz0, hz1, hz2⟩ := info_parts infoByte
  have hu := Try.underlying125
  have hup := Try.underlying123
  go_enter Try.func68, Try.ntmps68
  go_wp2_with (go_at_call 71; refine (copyCheck B b bs _ h).mono ?_)
  rintro e w1 ⟨rfl, h1, hb1⟩
  obtain ⟨hB, v, hbk, hown, hne⟩ := h1
  have c0 : w1.cell? ⟨b, 0, none⟩ = some (.pointer (some ⟨b, 0, none⟩)) := by rw [Lib.cell_of_heap hbk]; rfl
  have c1 : w1.cell? ⟨b, 1, none⟩ = some v := by rw [Lib.cell_of_heap hbk]; rfl
  go_wp2_with (at_builtin; refine Lib.wpList_append_own_string _ rfl _ _ 100 9 rfl B 5 i0 Try.underlying100 Try.underlying9 hi hz0 hz1 hz2 _ _ _ rfl hown s rfl ?c3 ?c4 ?c5 ?_)
  case c3 => unfold maxLen; omega
  case c4 => omega
  case c5 => have := hb1.size; omega
  intro v' w2 hown' hgrow _
  have hlt : b < w1.heap.size := by
    rcases Nat.lt_or_ge b w1.heap.size with h' | h'
    · exact h'
    · simp [Array.getElem?_eq_none h'] at hbk
  have hb2 : w2.heap[b]? = some (.cells #[.pointer (some ⟨b, 0, none⟩), v] 125 (0, 0)) := by
    rw [hgrow.block b hlt (fun e => hne e.symm)]
    exact hbk
  have d0 : w2.cell? ⟨b, 0, none⟩ = some (.pointer (some ⟨b, 0, none⟩)) := by rw [Lib.cell_of_heap hb2]; rfl
  have d1 : w2.cell? ⟨b, 1, none⟩ = some v := by rw [Lib.cell_of_heap hb2]; rfl
  have f1 : w2.frozen? ⟨b, 1, none⟩ = false := Lib.frozen_of_heap hb2 1
  obtain ⟨ao, n', cap, rfl⟩ : ∃ ao n' cap, v' = .slice ao n' cap := by
    rcases hown'.2 with ⟨hv, _⟩ | ⟨g, cap, cur, hv, _⟩
    · exact ⟨_, _, _, hv⟩
    · exact ⟨_, _, _, hv⟩
  go_wp2
  go_ret2
  refine ⟨rfl, ?_, ?_⟩
  · exact Lib.BuilderAt.put (T := 125) (e := 5) hB hb2 (bs' := bs ++ Lib.strCells s) (by simpa [Lib.strCells_length] using hown') (by decide)
  · exact (hb1.grown hgrow (by have := hb1.size; omega) (fun k hk => (hown.lt k hk).1)).setCell (p := ⟨b, 1, none⟩) hB _
theorem string_calls (B b : Nat) (s : ByteArray) (w : World) (h : Lib.IsBuilder 125 5 B b (Lib.strCells s) w) (hBw : B ≤ w.heap.size) :
    Calls Try.prog 69 #[.pointer (some ⟨b, 0, none⟩)] w fun e w' => e = .returned (.string s) ∧ Below B w w' := by
  rw [Lib.strCells_eq] at h
  have := Any.Builder_String_any LayB.bString extra B b s.data.toList w h hBw
  exact this
end Go.Proofs.Ytlmnfnkjbgnklaa.Build
end

section
/- A transaction's data: all changes' contents, one behind the other. -/
set_option linter.unusedVariables false
set_option linter.unusedSimpArgs false
namespace Go.Proofs.Ytlmnfnkjbgnklaa.TxnS
open Go.RowKit Go.Proofs.YtlmnfnkjbgnklaaW.PrintWords Go.Proofs.Ytlmnfnkjbgnklaa.Spec
def dataL : List Ch → ByteArray
  | [] => ⟨#[]⟩
  | c :: l => c.2 ++ dataL l
theorem dataL_snoc : ∀ (l : List Ch) (c : Ch), dataL (l ++ [c]) = dataL l ++ c.2
  | [], c => by
    show c.2 ++ ByteArray.empty = ByteArray.empty ++ c.2
    rw [ByteArray.append_empty, ByteArray.empty_append]
  | d :: l, c => by rw [List.cons_append, dataL, dataL, dataL_snoc l c, ByteArray.append_assoc]
theorem dataL_take (l : List Ch) (i : Nat) (h : i < l.length) : dataL (l.take (i + 1)) = dataL (l.take i) ++ (l[i]).2 := by
  rw [List.take_succ_eq_append_getElem h, dataL_snoc]
theorem dataL_size (m : Nat) : ∀ (l : List Ch), (∀ c ∈ l, c.2.size ≤ m) → (dataL l).size ≤ m * l.length
  | [], _ => Nat.zero_le _
  | c :: l, h => by
    have h1 := dataL_size m l (fun x hx => h x (List.mem_cons_of_mem _ hx))
    have h2 := h c (List.mem_cons_self ..)
    rw [dataL, ByteArray.size_append, List.length_cons, Nat.mul_add]
    omega
end Go.Proofs.Ytlmnfnkjbgnklaa.TxnS
namespace Go.Proofs.Ytlmnfnkjbgnklaa.Txn
open Go.RowKit Go.Proofs.YtlmnfnkjbgnklaaW.PrintWords Go.Proofs.YtlmnfnkjbgnklaaW.PrintLast Go.Proofs.YtlmnfnkjbgnklaaW.PrintMore Go.Proofs.Ytlmnfnkjbgnklaa.TxnS
theorem builder_below {T e : TypeId} {B b : Nat} {bs : List Value} {w w' : World} (h : Lib.IsBuilder T e B b bs w) (hb : Below w.heap.size w w') : Lib.IsBuilder T e B b bs w' := by
  have key : ∀ p, Lib.BuilderAt T e B b p bs w → Lib.BuilderAt T e B b p bs w' := by
    rintro p ⟨hB, v, hbk, hown, hne⟩
    exact ⟨hB, v, (hb.block b (blk_lt hbk)).trans hbk, own_same hown (fun k hk => hb.block k (own_lt hown k hk)), hne⟩
  rcases h with h | h
  · exact .inl (key _ h)
  · exact .inr (key _ h)
theorem strCells_append (a b : ByteArray) : Lib.strCells (a ++ b) = Lib.strCells a ++ Lib.strCells b := by
  unfold Lib.strCells
  rw [ByteArray.data_append, Array.toList_append, List.map_append]
set_option maxHeartbeats 3200000 in
set_option maxRecDepth 100000 in
theorem data_calls (l : List Ch) (A : Option Addr) (c : Nat) (w : World) (h : Chs w A l) (hl : l.length ≤ 1000) (hs : ∀ x ∈ l, x.2.size ≤ 1000) : Calls Try.prog 63 #[.slice A l.length c] w fun e w' => e = .returned (.string (dataL l)) ∧ Below w.heap.size w w' := by
  have hu := Try.underlying69
  have H := Aside0.mk h
  have HS := Aside0.mk hs
  clear h hs
  have hb0 : (w.alloc (.cells #[.pointer none, .slice none 0 0] 125)).heap[w.heap.size]? = some (.cells #[.pointer none, .slice none 0 0] 125 (0, 0)) := blk_new w _
  have I0 : Aside0 (Lib.IsBuilder 125 5 w.heap.size w.heap.size (Lib.strCells (dataL (l.take 0))) (w.alloc (.cells #[.pointer none, .slice none 0 0] 125))) := ⟨.inl ⟨Nat.le_refl _, .slice none 0 0, hb0, own_nil _ _ _ _, by simp [Value.ownBlock]⟩⟩
  have B0 := Aside0.mk (below_alloc (Below.refl w.heap.size w) (.cells #[.pointer none, .slice none 0 0] 125))
  clear hb0
  go_enter Try.func63, Try.ntmps63
  go_wp2_with fail
  go_loopw [8] (fun v8 wr => ∃ i : Nat, i ≤ l.length ∧ v8 = .int .i64 (i : Int) ∧ Aside0 (Lib.IsBuilder 125 5 w.heap.size w.heap.size (Lib.strCells (dataL (l.take i))) wr) ∧ Aside0 (Below w.heap.size w wr)) (fun x _ => l.length - (intOf x).toNat)
  case atStart => exact ⟨0, by omega, rfl, I0, B0⟩
  case round =>
    clear I0 B0
    obtain ⟨i, hi, rfl, HI, HB⟩ := hrel
    by_cases hlt : i < l.length
    · obtain ⟨ad, rfl, e0, e1⟩ := (H.out.below HB.out) i hlt
      have ht := dataL_take l i hlt
      have hsz := HS.out _ (List.getElem_mem hlt)
      have hds := dataL_size 1000 (l.take i) (fun x hx => HS.out x (List.mem_of_mem_take hx))
      generalize l[i] = x at e0 e1 ht hsz
      obtain ⟨a, s⟩ := x
      have HT := Aside0.mk ht
      clear ht
      dsimp only at e0 e1 hsz
      have P1 := Aside0.mk (blk_new wr (.cells #[.int .i64 a, .string s] 69))
      have B1 := Aside0.mk (below_alloc (Below.refl wr.heap.size wr) (.cells #[.int .i64 a, .string s] 69))
      go_upto_region 5 with fail
      generalize hW : wr.alloc (.cells #[.int .i64 a, .string s] 69) = W1 at P1 B1 ⊢
      clear hW e0 e1
      have p1 := (blk_cell P1.out 1).trans (Eq.refl (some (Value.string s)))
      have HC := Aside0.mk (Build.writeString w.heap.size w.heap.size _ s W1 (builder_below HI.out B1.out) (by rw [Lib.strCells_length, List.length_take] at *; omega) (Nat.le_trans HB.out.size B1.out.size))
      have B2 := Aside0.mk (HB.out.trans (B1.out.mono HB.out.size))
      clear hds
      go_wp2_with fail
      refine HC.out.mono ?_
      rintro e w3 ⟨rfl, h3, hb3⟩
      have I3 : Aside0 (Lib.IsBuilder 125 5 w.heap.size w.heap.size (Lib.strCells (dataL (l.take (i + 1)))) w3) := ⟨.inr (by rw [HT.out, strCells_append]; exact h3)⟩
      have B3 := Aside0.mk (B2.out.trans hb3)
      clear h3 hb3
      go_wp2_with fail
      go_roundw
      case rel => exact ⟨i + 1, by omega, by simp, I3, B3⟩
      case measure => simp [intOf]; omega
    · obtain rfl : i = l.length := by omega
      have hI := HI.out
      rw [List.take_length] at hI
      have HC := Aside0.mk (Build.string_calls w.heap.size w.heap.size (dataL l) wr hI HB.out.size)
      clear hI
      go_wp2_with fail
      refine HC.out.mono ?_
      rintro e w3 ⟨rfl, hb3⟩
      have B3 := Aside0.mk (HB.out.trans hb3)
      clear hb3
      go_wp2_with fail
      go_ret
      exact ⟨rfl, B3.out⟩
end Go.Proofs.Ytlmnfnkjbgnklaa.Txn
end
