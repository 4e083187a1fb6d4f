/- A journal in memory: Header. -/
import Derived.Test.YtlmnfnkjbgnklaaJrnl
set_option linter.unusedVariables false
set_option linter.unusedSimpArgs false
namespace Go.Proofs.Ytlmnfnkjbgnklaa.Jrnl
open Go.RowKit Go.Proofs.YtlmnfnkjbgnklaaW.PrintWords Go.Proofs.YtlmnfnkjbgnklaaW.PrintLast Go.Proofs.YtlmnfnkjbgnklaaW.PrintMore Go.Proofs.Ytlmnfnkjbgnklaa.TxnS Go.Proofs.Ytlmnfnkjbgnklaa.Txn Go.Proofs.Ytlmnfnkjbgnklaa.JS Go.Proofs.Ytlmnfnkjbgnklaa.Run Go.Proofs.Ytlmnfnkjbgnklaa.Spec
section
variable {B jb : Nat} {v : Value} {J : Jr} {w : World}
/-- What a header can say. -/
structure HW (J : Jr) : Prop where
  t0 : 0 ≤ J.tail
  tr : J.tail < 65536
  f1 : 0 ≤ J.first
  f2 : J.first ≤ 1152921504606846976
  n1 : 0 ≤ J.first + J.sealed
  n2 : J.first + J.sealed ≤ 1152921504606846976
theorem _root_.Go.Proofs.Ytlmnfnkjbgnklaa.JS.JW.hw (h : JW J) : HW J := by
  have := h.r255; have := h.tr; have := h.f1; have := h.fn; have := h.s0; have := h.sn
  exact ⟨h.t0, by omega, by omega, by omega, by omega, by omega⟩
set_option maxHeartbeats 3200000 in
set_option maxRecDepth 100000 in
theorem header_calls (h : JIs B w jb v J) (hw : HW J) : Calls Try.prog 19 #[ptr jb] w fun e w' => e = .returned (.string (headJ J)) ∧ Below w.heap.size w w' := by
  have hu := Try.underlying72
  have hup := Try.underlying23
  have HC : Aside0 (∀ W, Below w.heap.size w W → W.cell? ⟨jb, 1, none⟩ = some (.int .i64 J.tail) ∧ W.cell? ⟨jb, 2, none⟩ = some (.int .i64 J.first) ∧ W.cell? ⟨jb, 3, none⟩ = some (.int .i64 J.sealed)) := ⟨fun W hb => ⟨(h.below hb).c1, (h.below hb).c2, (h.below hb).c3⟩⟩
  have HT : Aside0 (headJ J = (blockS ((⟨#[72]⟩ : ByteArray) ++ strOfNums (le J.tail 2 ++ le J.first 8 ++ le (J.first + J.sealed) 8))).1) := ⟨rfl⟩
  have HZ := Aside0.mk (headTx_size J)
  have t0 := hw.t0
  have tr := hw.tr
  have f1 := hw.f1
  have f2 := hw.f2
  have n1 := hw.n1
  have n2 := hw.n2
  unfold headTx at HZ
  generalize headJ J = hJ at HT ⊢
  obtain ⟨J0, Jt, Jf, Js, Jz⟩ := J
  dsimp only at *
  have w1 : IntKind.i64.wrap (Jf + Js) = Jf + Js := IntWalk.i64_in _ (by omega)
  clear h hw
  unfold ptr
  go_enter Try.func19, Try.ntmps19
  go_wp2_with fail
  refine (Codec.new_any _).mono ?_
  rintro e w1 ⟨g, rfl, hI, hB⟩
  have HI1 := Aside0.mk hI
  have HB1 := Aside0.mk hB
  clear hI hB
  have c1 := (HC.out _ HB1.out).1
  go_wp2_with fail
  refine (Codec.fixed_2 Jt w.heap.size g [] w1 HI1.out (by simp) t0 (by omega)).mono ?_
  rintro e w2 ⟨rfl, hI, hB, _⟩
  have HI2 := Aside0.mk hI
  have HB2 := Aside0.mk (HB1.out.trans hB)
  clear hI hB HI1 c1
  have c2 := (HC.out _ HB2.out).2.1
  go_wp2_with fail
  refine (Codec.fixed_8 Jf w.heap.size g _ w2 HI2.out (by simp [le_length]) f1 (by omega)).mono ?_
  rintro e w3 ⟨rfl, hI, hB, _⟩
  have HI3 := Aside0.mk hI
  have HB3 := Aside0.mk (HB2.out.trans hB)
  clear hI hB HI2 c2
  obtain ⟨-, c2, c3⟩ := HC.out _ HB3.out
  have HI3' : Aside0 (Codec.IsW w3.drew w.heap.size g ([] ++ le Jt 2 ++ le Jf 8)) := ⟨HI3.out⟩
  have HB3' : Aside0 (Below w.heap.size w w3.drew) := ⟨below_drew1 HB3.out⟩
  go_wp2_with fail
  go_region_with (go_at_call 36; refine (Codec.fixed_8 (Jf + Js) w.heap.size g _ w3.drew HI3'.out (by simp [le_length]) n1 (by omega)).mono ?_; rintro e w4 ⟨rfl, hI, hB, _⟩; have HI4 := Aside0.mk hI; have HB4 := Aside0.mk (HB3'.out.trans hB); clear hI hB)
  all_goals
    have HI5 : Aside0 (Codec.IsW w4 w.heap.size g (le Jt 2 ++ le Jf 8 ++ le (Jf + Js) 8)) := ⟨HI4.out⟩
    clear c2 c3 HI3 HI3' HI4
    have HL : Aside0 ((strOfNums (le Jt 2 ++ le Jf 8 ++ le (Jf + Js) 8)).size = 18) := ⟨by rw [strOfNums_size, List.length_append, List.length_append, le_length, le_length, le_length]⟩
    go_wp2_with fail
    refine (Codec.out_any w.heap.size g _ w4 HI5.out).mono ?_
    generalize strOfNums (le Jt 2 ++ le Jf 8 ++ le (Jf + Js) 8) = L at HT HZ HL
    have hL := HL.out
    rintro e w7 ⟨rfl, rfl⟩
    obtain ⟨b2, hb2⟩ : ∃ b2, b2 = (blockS ((⟨#[72]⟩ : ByteArray) ++ L)).2 := ⟨_, rfl⟩
    have HX := Aside0.mk (C.sum_Block.calls ((⟨#[72]⟩ : ByteArray) ++ L) hJ b2 w4 (by rw [HT.out, hb2]; exact C.lim_ok _ (by rw [HZ.out]; omega)))
    clear HI5 hb2
    go_wp2_with fail
    refine HX.out.mono ?_
    rintro e w8 ⟨rfl, hB⟩
    have HB8 := Aside0.mk (HB4.out.trans (hB.mono HB4.out.size))
    clear hB
    go_wp2_with fail
    go_ret
    exact ⟨rfl, HB8.out⟩
end
end Go.Proofs.Ytlmnfnkjbgnklaa.Jrnl
