/- The walk of the law JournalWhole. -/
import Derived.Test.YtlmnfnkjbgnklaaPlayedW
set_option linter.unusedVariables false
set_option linter.unusedSimpArgs false
namespace Go.Proofs.Ytlmnfnkjbgnklaa.Core
open Go.RowKit Go.Proofs.YtlmnfnkjbgnklaaW.PrintWords Go.Proofs.YtlmnfnkjbgnklaaW.PrintLast Go.Proofs.YtlmnfnkjbgnklaaW.PrintMore Go.Proofs.Ytlmnfnkjbgnklaa.TxnS Go.Proofs.Ytlmnfnkjbgnklaa.Txn Go.Proofs.Ytlmnfnkjbgnklaa.JS Go.Proofs.Ytlmnfnkjbgnklaa.Run Go.Proofs.Ytlmnfnkjbgnklaa.Jrnl
/-- Open, of what was played. -/
theorem op_played {w : World} {J : Jr} {hs : List (List Ch)} {reg : List ByteArray} {u0 : Nat} (hI : PI J hs reg u0) {e : Ending} {w' : World} (h : OpPost w (openJ reg) e w') : ∃ jb vj A c us v8 rest, e = .returned (.tuple #[ptr jb, .slice A (hs.take J.sealed.toNat).length c, .int .i64 0]) ∧ OS w.heap.size w' jb vj (.slice A (hs.take J.sealed.toNat).length c) us v8 (sealedJ J) (hs.take J.sealed.toNat) rest ∧ Below w.heap.size w w' := by
  rw [open_law hI] at h
  rcases h with ⟨J', L, jb, vj, u, us, v8, rest, he, rfl, hO, hB⟩ | ⟨he, _⟩
  · have he := Option.some.inj he
    simp only [Prod.mk.injEq] at he
    obtain ⟨rfl, rfl⟩ := he
    obtain ⟨A, c, rfl⟩ := hO.o.slice
    rw [hO.uo.1] at hO ⊢
    exact ⟨jb, vj, A, c, us, v8, rest, rfl, hO, hB⟩
  · cases he
theorem strs_sz {J : Jr} {hs : List (List Ch)} {reg : List ByteArray} {u0 : Nat} (hI : PI J hs reg u0) : ∀ b ∈ reg, b.size ≤ 1125899906842624 := fun b hb => by rw [hI.all b hb]; decide
set_option maxHeartbeats 6400000 in
set_option maxRecDepth 100000 in
theorem journalWhole (W : World) (n : Int) (A : Option Addr) (l : List Stp) (cp : Nat) (hl : Stps W A l) (hg : ∀ s ∈ l, goodS s) :
    Calls Try.prog 6 #[.int .i64 n, .slice A l.length cp] W fun e W' => e = .returned (.bool true) ∧ Below W.heap.size W W' := by
  have hup := Try.underlying23
  by_cases h300 : l.length > 300
  · have b300 : decide (l.length > 300) = true := decide_eq_true h300
    go_enter Try.func6, Try.ntmps6
    go_wp2_with fail
    refine (speaks_calls _).mono ?_
    rintro e w5 ⟨rfl, hb5⟩
    have B5 := Aside0.mk hb5
    clear hb5
    go_wp2_with fail
    go_ret
    exact ⟨rfl, B5.out⟩
  have b300 : decide (l.length > 300) = false := decide_eq_false h300
  by_cases hn : n < 8 ∨ 256 < n
  · have HN := Aside0.mk hn
    have hb : decide (n < 8) = true ∨ (decide (n < 8) = false ∧ decide (n > 256) = true) := by simp; omega
    clear hn
    go_enter Try.func6, Try.ntmps6
    go_wp2_with fail
    refine (played_no n _ _ W HN.out).mono ?_
    rintro e w1 ⟨rfl, hb1⟩
    have T1 := Aside0.mk hb1
    clear hb1
    rcases hb with b1 | ⟨b1, b2⟩
    all_goals
      go_wp2_with fail
      refine (speaks_calls _).mono ?_
      rintro e w5 ⟨rfl, hb5⟩
      have T5 := Aside0.mk (T1.out.trans (hb5.mono T1.out.size))
      clear hb5
      go_wp2_with fail
      go_ret
      exact ⟨rfl, T5.out⟩
  obtain ⟨m, rfl⟩ : ∃ m : Nat, n = m := ⟨n.toNat, by omega⟩
  have HPl := Aside0.mk (played_yes m (by omega) (by omega) W A l cp hl hg (by omega) none 0 [] (fun i hi => by simp at hi) (by simp))
  rw [show ([] : List Bool).length = 0 from rfl] at HPl
  have hm0 : (0 : Int) < (m : Int) := by omega
  have hm00 : 0 < m := by omega
  clear hl hg hn
  go_enter Try.func6, Try.ntmps6
  go_wp2_with fail
  refine HPl.out.mono ?_
  rintro e w1 ⟨g, jb, v, Au, cu, us, reg, J, hs, u0, rfl, hP, hI, hlr⟩
  have P1 := Aside0.mk hP
  have I1 := Aside0.mk hI
  have HO := Aside0.mk (fun w' (hb : Below w1.heap.size w1 w') => open_calls reg (some ⟨g, 0, none⟩) m w' (P1.out.below hb).rg.strs (strs_sz I1.out))
  rw [hlr] at HO
  have HK : Aside0 (J.sealed.toNat ≤ us.length ∧ us.length = hs.length) := ⟨by
    have h1 := hP.uo.1
    have := hI.ok.sn
    have := hI.slen
    exact ⟨by omega, h1⟩⟩
  clear hP hI hlr HPl
  obtain ⟨K, hK⟩ : ∃ K, K = J.sealed.toNat := ⟨_, rfl⟩
  have HKe := Aside0.mk hK
  rw [← hK]
  clear hK
  unfold ptr
  go_wp2_with fail
  refine (HO.out _ (Below.refl _ _)).mono ?_
  intro e w2 hp
  obtain ⟨xb, vx, A2, c2, us2, v8, rest, rfl, hO2, hB2⟩ := op_played I1.out hp
  have O2 := Aside0.mk hO2
  have B2 := Aside0.mk hB2
  have P2 := Aside0.mk (P1.out.below hB2)
  clear hp hO2 hB2 HO
  have hLl : (hs.take J.sealed.toNat).length = K := by rw [List.length_take, HKe.out]; have := HK.out; omega
  have hj2 : Aside0 (∀ w', Below w2.heap.size w2 w' → Calls Try.prog 19 #[ptr xb] w' fun e w'' => e = .returned (.string (headJ J)) ∧ Below w'.heap.size w' w'') := ⟨fun w' hb => by
    have h := header_calls (O2.out.below hb).j (I1.out.sealed.ok).hw
    rw [show headJ (sealedJ J) = headJ J from rfl] at h
    exact h⟩
  have ht2 : Aside0 (∀ w', Below w2.heap.size w2 w' → Calls Try.prog 27 #[.slice A2 K c2, .slice Au K cu] w' fun e w'' => e = .returned (.bool true) ∧ Below w'.heap.size w' w'') := ⟨fun w' hb => by
    have o := O2.out.below hb
    have p := P2.out.below hb
    have h := told_yes (hs.take J.sealed.toNat) A2 Au c2 cu w' _ _ us2 (us.take K) o.o o.uo (by rw [hLl]; exact RowX_take p.o K (by rw [HKe.out]; exact HK.out.1)) (by rw [HKe.out]; exact p.uo.take _) (by rw [hLl]; have := I1.out.ok.sml.2; have := I1.out.slen; have := HK.out; have := HKe.out; omega) (fun l hl => by have := (I1.out.rt l (List.mem_of_mem_take hl)).2; omega) (fun x hx k hk => (o.d3 x hx k hk).1) (fun x hx k hk => by have := p.d4 x (List.mem_of_mem_take hx) k hk; have := p.b.size; omega)
    rwa [hLl] at h⟩
  have hc2 : Aside0 (∀ w', Below w2.heap.size w2 w' → w'.cell? ⟨g, 0, none⟩ = some (.string (headJ J))) := ⟨fun w' hb => (P2.out.below hb).rg.cell I1.out.hd⟩
  have HLl := Aside0.mk hLl
  rw [hLl]
  clear hLl
  generalize headJ J = hd at hj2 hc2
  have qn : (hd.toList == hd.toList) = true := by simp
  have BW := Aside0.mk P2.out.b
  unfold ptr at hj2
  have B0 : Aside0 (Below w2.heap.size w2 w2.drew) := ⟨below_drew1 (Below.refl _ _)⟩
  unfold ptr
  go_wp2_with fail
  go_region_held3 (fun w' => w'.cell? ⟨g, 0, none⟩ = some (.string hd)) (first | exact hc2.out _ B0.out | exact hc2.out _ B3.out | exact hc2.out _ B4.out | exact hc2.out _ B5.out) (first
    | (go_at_call 27; refine (ht2.out _ B0.out).mono ?_; rintro e w3 ⟨rfl, hB⟩; have B3 := Aside0.mk (B0.out.trans (hB.mono B0.out.size)); clear hB)
    | (go_at_call 19; refine (hj2.out _ B3.out).mono ?_; rintro e w4 ⟨rfl, hB⟩; have B4 := Aside0.mk (B3.out.trans (hB.mono B3.out.size)); clear hB)
    | (go_at_call 10; refine (speaks_calls _).mono ?_; rintro e w5 ⟨rfl, hB⟩; have B5 := Aside0.mk (B4.out.trans (hB.mono B4.out.size)); clear hB))
  all_goals go_wp2_with fail
  all_goals go_ret
  all_goals exact ⟨rfl, BW.out.trans (B5.out.mono BW.out.size)⟩
theorem JournalWhole (W : World) (n : Int) (hw : (Lit.int .i64 n).wf = true) (A : Option Addr) (m cp : Nat) (l : List Stp) (h : (Kd.slice 33 stpK).K W l [.slice A m cp]) (hg : ∀ s ∈ l, goodS s) :
    Calls Try.prog 6 #[.int .i64 n, .slice A m cp] W fun e W' => e = .returned (.bool true) ∧ Below W.heap.size W W' := by
  obtain ⟨rfl, hs⟩ := stps_of h
  exact journalWhole W n A l cp hs hg
end Go.Proofs.Ytlmnfnkjbgnklaa.Core
