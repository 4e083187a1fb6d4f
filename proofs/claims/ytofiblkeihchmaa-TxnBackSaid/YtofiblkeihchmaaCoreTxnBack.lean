/- The walk of the law TxnBack. -/
import Derived.Test.YtofiblkeihchmaaTxnOpen
set_option linter.unusedVariables false
set_option linter.unusedSimpArgs false
namespace Go.Proofs.Ytofiblkeihchmaa.Txn
open Go.RowKit Go.Proofs.YtofiblkeihchmaaW.PrintWords Go.Proofs.YtofiblkeihchmaaW.PrintLast Go.Proofs.YtofiblkeihchmaaW.PrintMore Go.Proofs.Ytofiblkeihchmaa.TxnS
section
variable {ops : Array Oper} {rest : List Oper} {o : Oper} {a : Act} {Q : Exit → Act → World → Prop}
theorem tv_length (l : List ByteArray) : (tv l).length = l.length := by simp [tv]
theorem strs_cells {w : World} {ad : Addr} {l : List ByteArray} (h : Strs w (some ad) l) : ∀ j u, (tv l)[j]? = some u → w.cell? (ad.add j) = some u := by
  intro j u hu
  have hj : j < l.length := by
    rcases Nat.lt_or_ge j l.length with hh | hh
    · exact hh
    · rw [List.getElem?_eq_none (by rw [tv_length]; exact hh)] at hu; cases hu
  obtain ⟨ad', e, h1⟩ := h j hj
  obtain rfl := Option.some.inj e
  rw [h1, ← hu]
  simp [tv, hj]
theorem tv_one (l : List ByteArray) : ∀ u ∈ tv l, u.oneCell' = true := by
  intro u hu
  obtain ⟨s, _, rfl⟩ := List.mem_map.1 hu
  rfl
theorem append_strs {w0 W : World} (base : Nat) (hgd : o.guard = none) (s x : Operand)
    (ho : o.op = .call { callee := .builtin .append, args := #[s, x], argTypes := #[32, 32] })
    (v : Value) (n : Nat) (xs : List Value) (A : Option Addr) (l : List ByteArray) (c : Nat) (hs : a.eval s = v) (hx : a.eval x = .slice A l.length c)
    (HO : W.ownsRow base 9 1 v n xs) (HC : Strs W A l) (HB : Below base w0 W) (hbase : base ≤ W.heap.size) (hl : (n + l.length) * 16 ≤ 140737488355328)
    (h : ∀ v1 w1, w1.ownsRow base 9 1 v1 (n + l.length) (xs ++ tv l) → Below base w0 w1 → W.grownBy w1 v.ownBlock → wpList Try.prog ops Q rest (a.put o.dst v1) w1) :
    wpList Try.prog ops Q (o :: rest) a W := by
  obtain ⟨i0, hi, hzz⟩ := Option.map_eq_some_iff.1 infoS
  simp only [Prod.mk.injEq] at hzz
  obtain ⟨hz0, hz1, hz2⟩ := hzz
  have hrun : ∃ v1 w1, (Builtin.append_ #[32, 32] o.type #[v, .slice A l.length c]).run Try.prog W = .ok v1 w1 ∧ w1.ownsRow base 9 1 v1 (n + l.length) (xs ++ tv l) ∧ W.grownBy w1 v.ownBlock := by
    rcases A with _ | ad
    · have h0 : l = [] := by
        rcases l with _ | ⟨q, l⟩
        · rfl
        · obtain ⟨ad, e, _⟩ := HC 0 (by simp)
          cases e
      subst h0
      refine ⟨v, W, ?_, by simpa [tv] using HO, World.grownBy.refl W _⟩
      rcases HO.2 with ⟨rfl, hn⟩ | ⟨g, cap, cur, rfl, _, _, hnc, _⟩
      · simp [Builtin.append_, run_underlying Try.underlying32, sizeOf, typeInfo, hi, Builtin.lenOf, Builtin.firstCells]
      · simp [Builtin.append_, run_underlying Try.underlying32, sizeOf, typeInfo, hi, Builtin.lenOf, Builtin.firstCells, hnc, storeCells]
    · obtain ⟨v1, w1, hr, h2, h3, _, h5⟩ := run_append_own_at (P := Try.prog) W base 32 o.type 9 i0 _ 1 16 Try.underlying32 hi hz0 hz1 hz2 rfl (by omega) v n xs HO ad l.length c (tv l) (by rw [tv_length]; omega) (strs_cells HC) (tv_one l) (by simp only [maxLen]; omega) hl hbase
      exact ⟨v1, w1, hr, h2, h3⟩
  obtain ⟨v1, w1, hr, hown, hg⟩ := hrun
  refine wpList_plain hgd fun K hK => ?_
  unfold Oper.wp execOp
  simp only [ho, resolve, invoke, builtin, Sem.run_bind, Sem.run_pure, Result.andThen_ok, List.map_toArray, List.map_cons, List.map_nil, hs, hx, hr]
  exact hK _ _ (h v1 w1 hown (HB.grown hg hbase (own_base HO)) hg)
end
end Go.Proofs.Ytofiblkeihchmaa.Txn
namespace Go.Proofs.Ytofiblkeihchmaa.Core
open Go.RowKit Go.Proofs.YtofiblkeihchmaaW.PrintWords Go.Proofs.YtofiblkeihchmaaW.PrintLast Go.Proofs.YtofiblkeihchmaaW.PrintMore Go.Proofs.Ytofiblkeihchmaa.TxnS Go.Proofs.Ytofiblkeihchmaa.Txn
set_option maxHeartbeats 6400000 in
set_option maxRecDepth 100000 in
theorem txnBack_no (W : World) (seq : Int) (r : Value) (m : Value) (e0 : Int) (he : e0 ≠ 0) (h : Calls Try.prog 14 #[.int .i64 seq, r] W fun e w' => e = .returned (.tuple #[.slice none 0 0, .int .i64 e0]) ∧ Below W.heap.size W w') :
    Calls Try.prog 4 #[.int .i64 seq, r, m] W fun e W' => e = .returned (.bool true) ∧ Below W.heap.size W W' := by
  have HE := Aside0.mk h
  have HS := Aside0.mk speaks_calls
  have he2 : (e0 != 0) = true := by simp [he]
  clear h he
  go_enter Try.func4, Try.ntmps4
  go_wp2_with fail
  refine HE.out.mono ?_
  rintro e w1 ⟨rfl, hB⟩
  have B1 := Aside0.mk hB
  clear hB HE
  go_wp2_with fail
  refine (HS.out _).mono ?_
  rintro e w8 ⟨rfl, hB⟩
  have B8 := Aside0.mk (B1.out.trans (hB.mono B1.out.size))
  clear hB
  go_wp2_with fail
  go_ret
  exact ⟨rfl, B8.out⟩
set_option maxHeartbeats 6400000 in
set_option maxRecDepth 100000 in
theorem txnBack_yes (W : World) (seq : Int) (l : List Ch) (A : Option Addr) (c1 : Nat) (more : List ByteArray) (M : Option Addr) (c2 : Nat) (ha : Chs W A l) (hm : Strs W M more) (hml : more.length ≤ 8796093021952) (hms : ∀ s ∈ more, s.size ≤ 140737488351232) (h0 : 1 ≤ seq) (h1 : seq ≤ 1099511627776) (hr : right l) :
    Calls Try.prog 4 #[.int .i64 seq, .slice A l.length c1, .slice M more.length c2] W fun e W' => e = .returned (.bool true) ∧ Below W.heap.size W W' := by
  have HA := Aside0.mk ha
  have HMo := Aside0.mk hm
  have HE := Aside0.mk (enc_yes seq l A c1 W ha h0 h1 hr)
  have HS := Aside0.mk speaks_calls
  have hll : l.length ≤ 48 := hr.2
  have hbl : (blocksL seq l).length = l.length + 1 := by simp [blocksL]
  have HDec := Aside0.mk (dec_enc h0 h1 hr more)
  have HSz : Aside0 (∀ b ∈ blocksL seq l ++ more, b.size ≤ 1125899906842624) := ⟨by
    intro b hb
    rcases List.mem_append.1 hb with hb | hb
    · rcases List.mem_cons.1 hb with rfl | hb
      · have : (headS seq l).size = 128 := Spec.blockS_size _ (by rw [headT_size]; omega)
        omega
      · obtain ⟨c, hc, rfl⟩ := List.mem_map.1 hb
        have := ((right_fits hr).2 c hc).2.2; omega
    · have := hms b hb; omega⟩
  clear ha hm hr
  generalize blocksL seq l = bl at HE HDec HSz hbl
  have HBL := Aside0.mk hbl
  clear hbl
  go_enter Try.func4, Try.ntmps4
  go_wp2_with fail
  refine HE.out.mono ?_
  rintro e w1 ⟨v1, rfl, hr, hB⟩
  obtain ⟨X, cx, rfl⟩ := own_slice hr
  have X1 := Aside0.mk (own_strs hr rfl)
  have B1 := Aside0.mk hB
  clear hr hB HE
  have hl1 : (0 + bl.length) * 16 ≤ 140737488355328 := by have := HBL.out; omega
  go_upto_region 5 with fail
  go_upto_region 6 with (at_builtin; refine append_strs w1.heap.size rfl (.tmp 28) (.tmp 29) rfl _ 0 [] X bl cx rfl rfl (own_nil _ _ _ _) X1.out (Below.refl _ _) (Nat.le_refl _) hl1 ?_; intro v2 w2 hr2 hb2 _; have R2 := Aside0.mk hr2; have B2 := Aside0.mk hb2; clear hr2 hb2)
  have hl2 : (0 + bl.length + more.length) * 16 ≤ 140737488355328 := by have := HBL.out; omega
  go_upto_region 7 with (at_builtin; refine append_strs w1.heap.size rfl (.tmp 31) (.tmp 32) rfl _ (0 + bl.length) _ M more c2 rfl rfl R2.out ((HMo.out.below B1.out).below B2.out) B2.out B2.out.size hl2 ?_; intro v3 w3 hr3 hb3 _; have R3 := Aside0.mk hr3; have B3 := Aside0.mk hb3; clear hr3 hb3)
  have hR3 : w3.ownsRow w1.heap.size 9 1 v3 (bl ++ more).length (tv (bl ++ more)) := by
    have h := R3.out
    have e1 : [] ++ tv bl ++ tv more = tv (bl ++ more) := by simp [tv]
    rw [e1, Nat.zero_add, ← List.length_append] at h
    exact h
  obtain ⟨N, hN⟩ : ∃ N, N = (bl ++ more).length := ⟨_, rfl⟩
  rw [← hN] at hR3
  obtain ⟨Z, cz, rfl⟩ := own_slice hR3
  have HD := Aside0.mk (decode_calls (bl ++ more) Z cz w3 (own_strs hR3 hN) HSz.out (by rw [List.length_append]; have := HBL.out; omega))
  rw [HDec.out, ← hN] at HD
  clear hN
  clear hR3 R3 R2 HDec HSz hl1 hl2
  go_wp2_with fail
  refine HD.out.mono ?_
  rintro e w4 ⟨v4, rfl, hr, hB⟩
  replace hr : w4.ownsRow w3.heap.size 39 2 v4 l.length (cv l) := hr
  obtain ⟨Y, cy, rfl⟩ := own_slice hr
  have B4 := Aside0.mk (B3.out.trans (hB.mono B3.out.size))
  have HCh := Aside0.mk (changes_calls l l Y A cy c1 w4 (own_chs hr rfl) ((HA.out.below B1.out).below B4.out) (by omega) (by omega))
  rw [decide_eq_true rfl] at HCh
  clear hr hB HD
  have ws : (seq == seq) = true := by simp
  have w1x : IntKind.i64.wrap ((l.length : Int) + 1) = (l.length : Int) + 1 := IntWalk.i64_in _ (by omega)
  have hbi : (bl.length : Int) = (l.length : Int) + 1 := by have := HBL.out; omega
  go_wp2_with fail
  refine HCh.out.mono ?_
  rintro e w5 ⟨rfl, hB⟩
  have B5 := Aside0.mk (B4.out.trans (hB.mono B4.out.size))
  clear hB HCh
  go_wp2_with fail
  refine (HS.out _).mono ?_
  rintro e w8 ⟨rfl, hB⟩
  have B8 := Aside0.mk (B5.out.trans (hB.mono B5.out.size))
  clear hB
  go_wp2_with fail
  go_ret
  exact ⟨rfl, B1.out.trans (B8.out.mono B1.out.size)⟩
theorem TxnBack (W : World) (seq : Int) (hw : (Lit.int .i64 seq).wf = true) (A : Option Addr) (n c1 : Nat) (l : List Ch) (h1 : (Kd.slice 39 chK).K W l [.slice A n c1]) (g1 : goodL l) (M : Option Addr) (m c2 : Nat) (more : List ByteArray) (h2 : (Kd.slice 9 Kd.string).K W more [.slice M m c2]) (g2 : goodT more) :
    Calls Try.prog 4 #[.int .i64 seq, .slice A n c1, .slice M m c2] W fun e W' => e = .returned (.bool true) ∧ Below W.heap.size W W' := by
  obtain ⟨rfl, ha⟩ := chs_of h1
  obtain ⟨rfl, hm⟩ := strs_of h2
  by_cases hs : seq < 1 ∨ 1099511627776 < seq
  · exact txnBack_no W seq _ _ 1 (by decide) (enc_no1 seq _ W hs)
  · by_cases hr : right l
    · exact txnBack_yes W seq l A c1 more M c2 ha hm g2.1 g2.2 (by omega) (by omega) hr
    · exact txnBack_no W seq _ _ 70 (by decide) (enc_no2 seq l A c1 W ha (by have := g1.1; omega) (by omega) (by omega) hr)
end Go.Proofs.Ytofiblkeihchmaa.Core
