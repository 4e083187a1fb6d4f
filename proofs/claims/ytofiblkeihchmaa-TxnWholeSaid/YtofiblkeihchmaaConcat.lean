/- slices.Grow of nothing, slices.Concat of two lists of changes. -/
import Derived.Test.YtofiblkeihchmaaTxnC
import Derived.Test.YtofiblkeihchmaaWZeros
import Derived.Lib.AppendZeros
set_option linter.unusedVariables false
set_option linter.unusedSimpArgs false
namespace Go.Proofs.Ytofiblkeihchmaa.Txn
open Go.RowKit Go.Proofs.YtofiblkeihchmaaW.PrintWords Go.Proofs.YtofiblkeihchmaaW.PrintLast Go.Proofs.YtofiblkeihchmaaW.PrintMore Go.Proofs.Ytofiblkeihchmaa.TxnS
theorem infoCh : (Try.prog.info? 39).map (fun i => (i.zero, i.size, i.bytes)) = some (some (.agg #[.int .i64 0, .string ⟨#[]⟩]), 2, 24) := by kernel_rfl
theorem zero_one (n : Nat) : ∀ u ∈ (Builtin.zeroCells (Value.agg #[.int .i64 0, .string ⟨#[]⟩]).cells n).toList, u.oneCell' = true := by
  intro u hu
  unfold Builtin.zeroCells at hu
  rw [Array.toList_map, List.mem_map] at hu
  obtain ⟨i, _, rfl⟩ := hu
  have hc : (Value.agg #[.int .i64 0, .string ⟨#[]⟩]).cells = #[.int .i64 0, .string ⟨#[]⟩] := rfl
  rw [hc]
  show ((#[Value.int .i64 0, .string ⟨#[]⟩] : Array Value)[i % 2]!).oneCell' = true
  rcases Nat.mod_two_eq_zero_or_one i with h | h <;> rw [h] <;> rfl
theorem own_cut0 {w : World} {base n : Nat} {e : TypeId} {v : Value} {xs : List Value} (h : w.ownsRow base e 2 v n xs) (hn : n ≠ 0) : ∃ g cap, v = .slice (some ⟨g, 0, none⟩) n cap ∧ n ≤ cap ∧ cap ≤ maxLen ∧ w.ownsRow base e 2 (.slice (some ⟨g, 0, none⟩) 0 cap) 0 [] := by
  rcases h.2 with ⟨rfl, h0⟩ | ⟨g, cap, cur, rfl, hb, hg, hnc, hcm, hcs, _⟩
  · exact absurd h0 hn
  · exact ⟨g, cap, rfl, hnc, hcm, rfl, .inr ⟨g, cap, cur, rfl, hb, hg, Nat.zero_le _, hcm, hcs, by simp⟩⟩
set_option maxHeartbeats 1600000 in
set_option maxRecDepth 100000 in
theorem grow_nil (n : Nat) (w : World) (hn : n ≤ 1000000) : Calls Try.prog 23 #[.slice none 0 0, .int .i64 n] w fun e w' => ∃ v, e = .returned v ∧ w'.ownsRow w.heap.size 39 2 v 0 [] ∧ Below w.heap.size w w' := by
  by_cases h0 : n = 0
  · subst h0
    go_enter Try.func23, Try.ntmps23
    go_wp2_with fail
    go_ret
    exact ⟨_, rfl, own_nil _ _ _ _, Below.refl _ _⟩
  · have b1 : decide ((n : Int) < 0) = false := decide_eq_false (by omega)
    have b2 : decide ((n : Int) > 0) = true := decide_eq_true (by omega)
    have b3 : decide (0 < n) = true := decide_eq_true (by omega)
    obtain ⟨i0, hi, hzz⟩ := Option.map_eq_some_iff.1 infoCh
    simp only [Prod.mk.injEq] at hzz
    obtain ⟨hz0, hz1, hz2⟩ := hzz
    obtain ⟨v', w', hrun, hown, hg, hat⟩ := run_append_zeros (P := Try.prog) w w.heap.size 22 3 22 39 i0 _ 2 24 Try.underlying22 Try.underlying3 hi hz0 hz1 hz2 rfl (by omega) (by omega) (.slice none 0 0) 0 [] (own_nil _ _ _ _) .i64 n (zero_one n) (by omega) (Nat.le_refl _)
    obtain ⟨g, cap, rfl, hnc, hcm, hr0⟩ := own_cut0 hown (by omega)
    rw [Nat.zero_add] at hrun hnc
    have HB : Aside0 (Below w.heap.size w w') := ⟨(Below.refl _ w).grown hg (Nat.le_refl _) (by intro k hk; simp [Value.ownBlock] at hk)⟩
    have HR := Aside0.mk hr0
    clear hown hat hr0 hg
    have hcap : (n : Int) ≤ (cap : Int) := by omega
    have hcap2 : (0 : Int) ≤ (cap : Int) := by omega
    have hcap3 : (cap : Int) ≤ 9223372036854775807 := by unfold maxLen at hcm; omega
    go_enter Try.func23, Try.ntmps23
    go_wp2_with (at_builtin; refine Lib.wpList_append_run _ rfl _ _ _ _ rfl _ _ rfl rfl _ _ hrun ?_)
    go_ret
    exact ⟨_, rfl, HR.out, HB.out⟩
theorem cell_sub (w : World) (ad : Addr) (m j : Nat) (hj : j ≠ 0) : w.cell? ⟨(ad.add m).block, (ad.add m).off + j, none⟩ = w.cell? (ad.add (m + j)) := by
  have h1 : (ad.add m).block = ad.block := by unfold Addr.add; split <;> rfl
  have h2 : (ad.add m).off = ad.off + m := by
    unfold Addr.add
    split
    · rename_i h; have h' : m = 0 := by simpa using h
      rw [h', Nat.add_zero]
    · rfl
  have h3 : ad.add (m + j) = ⟨ad.block, ad.off + (m + j), none⟩ := by
    unfold Addr.add
    split
    · rename_i h; have h' : m + j = 0 := by simpa using h
      omega
    · rfl
  rw [h1, h2, h3, Nat.add_assoc]
theorem chs_cells {w : World} {ad : Addr} {l : List Ch} (h : Chs w (some ad) l) : ∀ j u, (cv l)[j]? = some u → w.cell? (ad.add j) = some u := by
  intro j u hu
  have hj : j < (cv l).length := by
    rcases Nat.lt_or_ge j (cv l).length with hh | hh
    · exact hh
    · rw [List.getElem?_eq_none hh] at hu; cases hu
  rw [cv_length] at hj
  obtain ⟨ad', e, h1, h2⟩ := h (j / 2) (by omega)
  obtain rfl := Option.some.inj e
  obtain ⟨k1, k2⟩ := cv_at l (j / 2) (by omega)
  rcases Nat.mod_two_eq_zero_or_one j with hm | hm
  · have e2 : j / 2 * 2 = j := by omega
    rw [e2] at h1 k1
    rw [h1, ← k1, hu]
  · have e2 : j / 2 * 2 + 1 = j := by omega
    rw [cell_sub w ad _ 1 (by decide), e2] at h2
    rw [e2] at k2
    rw [h2, ← k2, hu]
theorem cv_one (l : List Ch) : ∀ u ∈ cv l, u.oneCell' = true := by
  intro u hu
  unfold cv at hu
  obtain ⟨c, _, hc⟩ := List.mem_flatMap.1 hu
  simp at hc
  rcases hc with rfl | rfl <;> rfl
section
variable {ops : Array Oper} {rest : List Oper} {o : Oper} {a : Act} {Q : Exit → Act → World → Prop}
theorem append_chs {w0 W : World} (base : Nat) (hgd : o.guard = none) (s x : Operand)
    (ho : o.op = .call { callee := .builtin .append, args := #[s, x], argTypes := #[22, 22] })
    (v : Value) (n : Nat) (xs : List Value) (A : Option Addr) (l : List Ch) (c : Nat) (hs : a.eval s = v) (hx : a.eval x = .slice A l.length c)
    (HO : W.ownsRow base 39 2 v n xs) (HC : Chs W A l) (HB : Below base w0 W) (hbase : base ≤ W.heap.size) (hl : n + l.length ≤ 1000000)
    (h : ∀ v1 w1, w1.ownsRow base 39 2 v1 (n + l.length) (xs ++ cv l) → Below base w0 w1 → W.grownBy w1 v.ownBlock → wpList Try.prog ops Q rest (a.put o.dst v1) w1) :
    wpList Try.prog ops Q (o :: rest) a W := by
  obtain ⟨i0, hi, hzz⟩ := Option.map_eq_some_iff.1 infoCh
  simp only [Prod.mk.injEq] at hzz
  obtain ⟨hz0, hz1, hz2⟩ := hzz
  have hrun : ∃ v1 w1, (Builtin.append_ #[22, 22] o.type #[v, .slice A l.length c]).run Try.prog W = .ok v1 w1 ∧ w1.ownsRow base 39 2 v1 (n + l.length) (xs ++ cv l) ∧ W.grownBy w1 v.ownBlock := by
    rcases A with _ | ad
    · have h0 : l = [] := by
        rcases l with _ | ⟨q, l⟩
        · rfl
        · obtain ⟨ad, e, _⟩ := HC 0 (by simp)
          cases e
      subst h0
      refine ⟨v, W, ?_, by simpa [cv] using HO, World.grownBy.refl W _⟩
      rcases HO.2 with ⟨rfl, hn⟩ | ⟨g, cap, cur, rfl, _, _, hnc, _⟩
      · simp [Builtin.append_, run_underlying Try.underlying22, sizeOf, typeInfo, hi, Builtin.lenOf, Builtin.firstCells]
      · simp [Builtin.append_, run_underlying Try.underlying22, sizeOf, typeInfo, hi, Builtin.lenOf, Builtin.firstCells, hnc, storeCells]
    · obtain ⟨v1, w1, hr, h2, h3, _, h5⟩ := run_append_own_at (P := Try.prog) W base 22 o.type 39 i0 _ 2 24 Try.underlying22 hi hz0 hz1 hz2 rfl (by omega) v n xs HO ad l.length c (cv l) (cv_length l) (chs_cells HC) (cv_one l) (by simp only [maxLen]; omega) (by omega) hbase
      exact ⟨v1, w1, hr, h2, h3⟩
  obtain ⟨v1, w1, hr, hown, hg⟩ := hrun
  refine wpList_plain hgd fun K hK => ?_
  unfold Oper.wp execOp
  simp only [ho, resolve, invoke, builtin, Sem.run_bind, Sem.run_pure, Result.andThen_ok, List.map_toArray, List.map_cons, List.map_nil, hs, hx, hr]
  exact hK _ _ (h v1 w1 hown (HB.grown hg hbase (own_base HO)) hg)
end
def tot (a b : List Ch) (i : Nat) : Nat := if i = 0 then 0 else if i = 1 then a.length else a.length + b.length
def part2 (a b : List Ch) (i : Nat) : List Ch := if i = 0 then [] else if i = 1 then a else a ++ b
set_option maxHeartbeats 3200000 in
set_option maxRecDepth 100000 in
theorem concat_calls (la lb : List Ch) (A B : Option Addr) (c c' g : Nat) (w : World) (ha : Chs w A la) (hb : Chs w B lb) (hla : la.length ≤ 1000) (hlb : lb.length ≤ 1000) (hg : w.heap[g]? = some (.cells #[.slice A la.length c, .slice B lb.length c'] 22 (0, 0))) :
    Calls Try.prog 16 #[.slice (some ⟨g, 0, none⟩) 2 2] w fun e w' => ∃ v, e = .returned v ∧ w'.ownsRow w.heap.size 39 2 v (la ++ lb).length (cv (la ++ lb)) ∧ Below w.heap.size w w' := by
  have HA := Aside0.mk ha
  have HB0 := Aside0.mk hb
  have HG := Aside0.mk hg
  clear ha hb hg
  go_enter Try.func16, Try.ntmps16
  go_wp2_with fail
  go_loopw [3, 11] (fun v3 v11 wr => ∃ i : Nat, i ≤ 2 ∧ v11 = .int .i64 (i : Int) ∧ v3 = .int .i64 (tot la lb i : Nat) ∧ Aside0 (Below w.heap.size w wr)) (fun _ x _ => 2 - (intOf x).toNat)
  case atStart => exact ⟨0, by omega, rfl, rfl, ⟨Below.refl _ _⟩⟩
  case round =>
    obtain ⟨i, hi, rfl, rfl, HB⟩ := hrel
    have hgr := blk_below HG.out HB.out
    have q0 := (blk_cell hgr 0).trans (Eq.refl (some (Value.slice A la.length c)))
    have q1 := (blk_cell hgr 1).trans (Eq.refl (some (Value.slice B lb.length c')))
    clear hgr
    have hcase : i = 0 ∨ i = 1 ∨ i = 2 := by omega
    rcases hcase with rfl | rfl | rfl
    · have e0 : (tot la lb 0 : Nat) = 0 := rfl
      rw [e0]
      have w1 : IntKind.i64.wrap (0 + (la.length : Int)) = (la.length : Int) := by rw [Int.zero_add]; exact IntWalk.i64_in _ (by omega)
      have b1 : decide ((la.length : Int) < 0) = false := decide_eq_false (by omega)
      clear hi
      go_wp2_with fail
      go_roundw
      case rel => exact ⟨1, by omega, rfl, by simp [tot], HB⟩
      case measure => simp [intOf]
    · have e0 : (tot la lb 1 : Nat) = la.length := rfl
      rw [e0]
      have w1 : IntKind.i64.wrap ((la.length : Int) + (lb.length : Int)) = (la.length : Int) + (lb.length : Int) := IntWalk.i64_in _ (by omega)
      have b1 : decide ((la.length : Int) + (lb.length : Int) < 0) = false := decide_eq_false (by omega)
      clear hi
      go_wp2_with fail
      go_roundw
      case rel => exact ⟨2, by omega, rfl, by simp [tot], HB⟩
      case measure => simp [intOf]
    · have e0 : (tot la lb 2 : Nat) = la.length + lb.length := rfl
      rw [e0]
      clear q0 q1 hi
      have HGr := Aside0.mk (grow_nil (la.length + lb.length) wr (by omega))
      go_wp2_with fail
      refine HGr.out.mono ?_
      rintro e w2 ⟨v, rfl, hr, hb⟩
      have R2 : Aside0 (w2.ownsRow w.heap.size 39 2 v (tot la lb 0) (cv (part2 la lb 0))) := ⟨⟨hr.1, by
        rcases hr.2 with hh | ⟨g, cap, cur, rfl, hb', hrest⟩
        · exact .inl hh
        · exact .inr ⟨g, cap, cur, rfl, Nat.le_trans HB.out.size hb', hrest⟩⟩⟩
      have B2 := Aside0.mk (HB.out.trans (hb.mono HB.out.size))
      clear hr hb HB HGr
      go_wp2_with fail
      go_loopw [6, 27] (fun v6 v27 wq => ∃ j : Nat, j ≤ 2 ∧ v27 = .int .i64 (j : Int) ∧ Aside0 (wq.ownsRow w.heap.size 39 2 v6 (tot la lb j) (cv (part2 la lb j))) ∧ Aside0 (Below w.heap.size w wq)) (fun _ x _ => 2 - (intOf x).toNat)
      case atStart => exact ⟨0, by omega, rfl, R2, B2⟩
      case round =>
        clear R2 B2
        obtain ⟨j, hj, rfl, HR, HB⟩ := hrel
        have hgr := blk_below HG.out HB.out
        have q0 := (blk_cell hgr 0).trans (Eq.refl (some (Value.slice A la.length c)))
        have q1 := (blk_cell hgr 1).trans (Eq.refl (some (Value.slice B lb.length c')))
        clear hgr
        have hcase : j = 0 ∨ j = 1 ∨ j = 2 := by omega
        rcases hcase with rfl | rfl | rfl
        · clear hj
          have hml : tot la lb 0 + la.length ≤ 1000000 := by show 0 + _ ≤ _; omega
          go_wp2_with (at_builtin; refine append_chs w.heap.size rfl (.tmp 31) (.tmp 32) rfl _ (tot la lb 0) _ A la c rfl rfl HR.out (HA.out.below HB.out) HB.out HB.out.size hml ?_; intro v8 w8 hr8 hb8 _; have R8 := Aside0.mk hr8; have B8 := Aside0.mk hb8; clear hr8 hb8)
          go_roundw
          case rel => exact ⟨1, by omega, rfl, ⟨by have := R8.out; simpa [tot, part2, cv] using this⟩, B8⟩
          case measure => simp [intOf]
        · clear hj
          have hml : tot la lb 1 + lb.length ≤ 1000000 := by show la.length + _ ≤ _; omega
          go_wp2_with (at_builtin; refine append_chs w.heap.size rfl (.tmp 31) (.tmp 32) rfl _ (tot la lb 1) _ B lb c' rfl rfl HR.out (HB0.out.below HB.out) HB.out HB.out.size hml ?_; intro v8 w8 hr8 hb8 _; have R8 := Aside0.mk hr8; have B8 := Aside0.mk hb8; clear hr8 hb8)
          go_roundw
          case rel => exact ⟨2, by omega, rfl, ⟨by have := R8.out; simpa [tot, part2, cv] using this⟩, B8⟩
          case measure => simp [intOf]
        · clear q0 q1 hj
          go_wp2_with fail
          go_ret
          exact ⟨_, rfl, by rw [List.length_append]; exact HR.out, HB.out⟩
end Go.Proofs.Ytofiblkeihchmaa.Txn
