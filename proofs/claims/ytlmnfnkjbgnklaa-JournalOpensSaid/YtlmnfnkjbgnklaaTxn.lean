/- What transactions are: plain functions, no program in sight. Changes in memory; Check, Right and the comparison. -/
import Derived.Test.YtlmnfnkjbgnklaaSumC
import Derived.BigQuiet
section
/- What transactions are: plain functions, no program in sight. -/
set_option linter.unusedVariables false
set_option linter.unusedSimpArgs false
namespace Go.Proofs.Ytlmnfnkjbgnklaa.TxnS
open Go.RowKit Go.Proofs.YtlmnfnkjbgnklaaW.PrintWords Go.Proofs.Ytlmnfnkjbgnklaa.Spec

abbrev Ch := Int × ByteArray
def cv (l : List Ch) : List Value := l.flatMap fun c => [.int .i64 c.1, .string c.2]
theorem cv_length (l : List Ch) : (cv l).length = l.length * 2 := by
  induction l with
  | nil => rfl
  | cons p q ih => simp only [cv, List.flatMap_cons, List.length_append, List.length_cons, List.length_nil] at *; omega
theorem cv_append (a b : List Ch) : cv (a ++ b) = cv a ++ cv b := by simp [cv]
theorem cv_at : ∀ (q : List Ch) (i : Nat) (h : i < q.length), (cv q)[i * 2]? = some (.int .i64 (q[i]).1) ∧ (cv q)[i * 2 + 1]? = some (.string (q[i]).2)
  | [], i, h => by simp at h
  | p :: q, 0, _ => ⟨rfl, rfl⟩
  | p :: q, i + 1, h => by
    have ih := cv_at q i (by simpa using h)
    have e : cv (p :: q) = .int .i64 p.1 :: .string p.2 :: cv q := rfl
    rw [e, show (i + 1) * 2 = i * 2 + 1 + 1 by omega]
    simpa using ih
/-- Are changes right? -/
def rightL : Int → List Ch → Prop
  | _, [] => True
  | last, c :: l => last < c.1 ∧ c.1 < 1024 ∧ c.2.size = 128 ∧ rightL c.1 l
instance rightL_dec : ∀ (a : Int) (l : List Ch), Decidable (rightL a l)
  | _, [] => by unfold rightL; infer_instance
  | last, c :: l => by unfold rightL; have := rightL_dec c.1 l; infer_instance
def right (l : List Ch) : Prop := rightL (-1) l ∧ l.length ≤ 48
instance (l : List Ch) : Decidable (right l) := by unfold right; infer_instance
def chk (l : List Ch) : Int := if right l then 0 else 70
def lastAt (l : List Ch) : Nat → Int
  | 0 => -1
  | k + 1 => (l[k]?.map Prod.fst).getD (-1)
theorem lastAt_succ (l : List Ch) (i : Nat) (h : i < l.length) : lastAt l (i + 1) = (l[i]).1 := by simp [lastAt, h]
theorem rightL_step (l : List Ch) (i : Nat) (h : i < l.length) : rightL (lastAt l i) (l.drop i) ↔ lastAt l i < (l[i]).1 ∧ (l[i]).1 < 1024 ∧ (l[i]).2.size = 128 ∧ rightL (lastAt l (i + 1)) (l.drop (i + 1)) := by
  rw [List.drop_eq_getElem_cons h, lastAt_succ l i h]
  exact Iff.rfl
theorem rightL_all (a : Int) : ∀ (l : List Ch), rightL a l → ∀ c ∈ l, a < c.1 ∧ c.1 < 1024 ∧ c.2.size = 128
  | [], _, c, hc => by simp at hc
  | d :: l, h, c, hc => by
    rcases List.mem_cons.1 hc with rfl | hc
    · exact ⟨h.1, h.2.1, h.2.2.1⟩
    · have := rightL_all d.1 l h.2.2.2 c hc
      exact ⟨by have := h.1; omega, this.2.1, this.2.2⟩
end Go.Proofs.Ytlmnfnkjbgnklaa.TxnS
end

section
/- Changes in memory; Check, Right and the comparison. -/
set_option linter.unusedVariables false
set_option linter.unusedSimpArgs false
namespace Go.Proofs.Ytlmnfnkjbgnklaa.Txn
open Go.RowKit Go.Proofs.YtlmnfnkjbgnklaaW.PrintWords Go.Proofs.YtlmnfnkjbgnklaaW.PrintLast Go.Proofs.YtlmnfnkjbgnklaaW.PrintMore Go.Proofs.Ytlmnfnkjbgnklaa.TxnS

/-- Changes at A. -/
def Chs (w : World) (A : Option Addr) (l : List Ch) : Prop := ∀ i (h : i < l.length), ∃ ad, A = some ad ∧ w.cell? (ad.add (i * 2)) = some (.int .i64 (l[i]).1) ∧ w.cell? ⟨(ad.add (i * 2)).block, (ad.add (i * 2)).off + 1, none⟩ = some (.string (l[i]).2)
theorem Chs.below {w w' : World} {A : Option Addr} {l : List Ch} (h : Chs w A l) (hb : Below w.heap.size w w') : Chs w' A l := by
  intro i hi
  obtain ⟨ad, e, h1, h2⟩ := h i hi
  have hlt := World.block_lt_of_cell? w _ h1
  refine ⟨ad, e, (World.cell?_of_block (hb.block _ hlt)).trans h1, ?_⟩
  rw [← h2]
  exact World.cell?_of_block (hb.block _ hlt)
theorem Chs.nil (w : World) (A : Option Addr) : Chs w A [] := fun i hi => by simp at hi
theorem own_same {w w' : World} {base : Nat} {e : TypeId} {size n : Nat} {v : Value} {xs : List Value} (h : w.ownsRow base e size v n xs) (hb : ∀ k, v.ownBlock = some k → w'.heap[k]? = w.heap[k]?) : w'.ownsRow base e size v n xs := by
  refine ⟨h.1, ?_⟩
  rcases h.2 with hn | ⟨g, cap, cur, rfl, hbb, hgg, rest⟩
  · exact .inl hn
  · exact .inr ⟨g, cap, cur, rfl, hbb, (hb g rfl).trans hgg, rest⟩
/-- A row of the call's own, read as changes. -/
theorem own_chs {w : World} {base n c : Nat} {A : Option Addr} {l : List Ch} (h : w.ownsRow base 69 2 (.slice A n c) n (cv l)) (hn : n = l.length) : Chs w A l := by
  subst hn
  intro i hi
  rcases h.2 with ⟨h1, h2⟩ | ⟨g, cap, cur, h1, _⟩
  · simp only [Value.slice.injEq] at h1; omega
  · simp only [Value.slice.injEq] at h1
    obtain ⟨rfl, -, rfl⟩ := h1
    have hadd : (⟨g, 0, none⟩ : Addr).add (i * 2) = ⟨g, i * 2, none⟩ := by unfold Addr.add; split <;> simp_all
    refine ⟨⟨g, 0, none⟩, rfl, ?_, ?_⟩
    · rw [hadd]; exact (World.ownsRow.cellAt h (i * 2) (by omega)).trans (cv_at l i hi).1
    · rw [hadd]; exact (World.ownsRow.cellAt h (i * 2 + 1) (by omega)).trans (cv_at l i hi).2
theorem below_n {base : Nat} {w W : World} (h : Below base w W) (n : Nat) : Below base w (W.drewN n) := ⟨h.os, h.tape, h.output, h.size, h.block⟩
set_option maxHeartbeats 3200000 in
set_option maxRecDepth 100000 in
theorem check_calls (l : List Ch) (A : Option Addr) (c : Nat) (w : World) (h : Chs w A l) (hl : l.length ≤ 1125899906842624) : Calls Try.prog 30 #[.slice A l.length c] w fun e w' => e = .returned (.int .i64 (chk l)) ∧ Below w.heap.size w w' := by
  have hu := Try.underlying69
  have H := Aside0.mk h
  clear h
  go_enter Try.func30, Try.ntmps30
  go_wp2_with fail
  go_loopw [7] (fun v7 wr => ∃ i : Nat, i ≤ l.length ∧ v7 = .int .i64 (i : Int) ∧ Aside0 (rightL (-1) l ↔ rightL (lastAt l i) (l.drop i)) ∧ Aside0 (-1 ≤ lastAt l i ∧ (0 < i → 0 ≤ lastAt l i)) ∧ Aside0 (Below w.heap.size w wr)) (fun x _ => l.length - (intOf x).toNat)
  case atStart => exact ⟨0, by omega, rfl, ⟨Iff.rfl⟩, ⟨by simp [lastAt], by omega⟩, ⟨Below.refl _ _⟩⟩
  case round =>
    obtain ⟨i, hi, rfl, HR, HL, HB⟩ := hrel
    by_cases hlt : i < l.length
    · obtain ⟨ad, rfl, e0, e1⟩ := (H.out.below HB.out) i hlt
      have hs := rightL_step l i hlt
      have hl1 := lastAt_succ l i hlt
      obtain ⟨x, hx⟩ : ∃ x, x = l[i] := ⟨_, rfl⟩
      rw [← hx] at e0 e1 hs hl1
      have HX := Aside0.mk hx
      clear hx
      obtain ⟨a, s⟩ := x
      have HS := Aside0.mk hs
      have HL1 := Aside0.mk hl1
      clear hs hl1
      dsimp only at e0 e1
      have P1 := Aside0.mk (blk_new wr (.cells #[.int .i64 a, .string s] 69))
      have B1 := Aside0.mk (HB.out.trans ((below_alloc (Below.refl wr.heap.size wr) (.cells #[.int .i64 a, .string s] 69)).mono HB.out.size))
      go_upto_region 4 with fail
      generalize hW : wr.alloc (.cells #[.int .i64 a, .string s] 69) = W1 at P1 B1 ⊢
      clear hW e0 e1
      have p0 := (blk_cell P1.out 0).trans (Eq.refl (some (Value.int .i64 a)))
      have p1 := (blk_cell P1.out 1).trans (Eq.refl (some (Value.string s)))
      have No : Aside0 (¬ (lastAt l i < a ∧ a < 1024 ∧ s.size = 128) → chk l = 70) := ⟨fun hn => by
        have hr : ¬ right l := by
          rintro ⟨h1, _⟩
          have h2 := HS.out.1 (HR.out.1 h1)
          exact hn ⟨h2.1, h2.2.1, h2.2.2.1⟩
        exact if_neg hr⟩
      by_cases g1 : a < 0
      · have q1 : decide (a < 0) = true := decide_eq_true g1
        have N2 := Aside0.mk (No.out (fun hh => by have := HL.out.1; have := hh.1; omega))
        go_big_quiet (fail)
        go_wp2_with fail
        go_ret
        exact ⟨by rw [N2.out]; rfl, below_n B1.out _⟩
      · have q1 : decide (a < 0) = false := decide_eq_false g1
        by_cases g2 : a ≥ 1024
        · have q2 : decide (a ≥ 1024) = true := decide_eq_true g2
          have N2 := Aside0.mk (No.out (fun hh => by have := hh.2.1; omega))
          go_big_quiet (fail)
          go_wp2_with fail
          go_ret
          exact ⟨by rw [N2.out]; rfl, below_n B1.out _⟩
        · have q2 : decide (a ≥ 1024) = false := decide_eq_false g2
          by_cases g3 : s.size = 128
          · have q3 : ((s.size : Int) != 128) = false := by simp; omega
            have NX : Aside0 (lastAt l i < a → (rightL (-1) l ↔ rightL (lastAt l (i + 1)) (l.drop (i + 1))) ∧ -1 ≤ lastAt l (i + 1) ∧ (0 < i + 1 → 0 ≤ lastAt l (i + 1))) := ⟨fun hla => ⟨HR.out.trans (HS.out.trans ⟨fun hh => hh.2.2.2, fun hh => ⟨hla, by omega, g3, hh⟩⟩), by rw [HL1.out]; show -1 ≤ a; omega, fun _ => by rw [HL1.out]; show 0 ≤ a; omega⟩⟩
            cases i with
            | zero =>
              have N3 := Aside0.mk (NX.out (by show (-1 : Int) < a; omega))
              clear g3 NX
              go_big_quiet (fail)
              go_wp2_with fail
              go_roundw
              case rel => exact ⟨1, by omega, by simp, ⟨N3.out.1⟩, ⟨N3.out.2⟩, ⟨below_n B1.out _⟩⟩
              case measure => simp [intOf]; omega
            | succ k =>
              obtain ⟨ad', e', d0, _⟩ := (H.out.below B1.out) k (by omega)
              obtain rfl := Option.some.inj e'
              have hlk := lastAt_succ l k (by omega)
              obtain ⟨y, hy⟩ : ∃ y : Int, y = (l[k]).1 := ⟨_, rfl⟩
              rw [← hy] at d0 hlk
              have HLK := Aside0.mk hlk
              clear hy hlk e'
              have w1 : IntKind.i64.wrap ((k : Int) + 1 - 1) = (k : Int) := by rw [Int.add_sub_cancel]; exact IntWalk.i64_in _ (by omega)
              by_cases g4 : y ≥ a
              · have q4 : decide (y ≥ a) = true := decide_eq_true g4
                have N2 := Aside0.mk (No.out (fun hh => by have := hh.1; rw [HLK.out] at this; omega))
                clear g3
                go_big_quiet (fail)
                go_wp2_with fail
                go_ret
                exact ⟨by rw [N2.out]; rfl, below_n B1.out _⟩
              · have q4 : decide (y ≥ a) = false := decide_eq_false g4
                have N3 := Aside0.mk (NX.out (by rw [HLK.out]; omega))
                clear g3 NX
                go_big_quiet (fail)
                go_wp2_with fail
                go_roundw
                case rel => exact ⟨k + 1 + 1, by omega, by simp, ⟨N3.out.1⟩, ⟨N3.out.2⟩, ⟨below_n B1.out _⟩⟩
                case measure => simp [intOf]; omega
          · have q3 : ((s.size : Int) != 128) = true := by simp; omega
            have N2 := Aside0.mk (No.out (fun hh => g3 hh.2.2))
            clear g3
            go_big_quiet (fail)
            go_wp2_with fail
            go_ret
            exact ⟨by rw [N2.out]; rfl, below_n B1.out _⟩
    · obtain rfl : i = l.length := by omega
      have hR := HR.out
      rw [List.drop_length] at hR
      have HR2 : Aside0 (rightL (-1) l) := ⟨hR.2 trivial⟩
      clear hR HR
      by_cases g : 48 < l.length
      · have q : decide (48 < l.length) = true := decide_eq_true g
        have N2 : Aside0 (chk l = 70) := ⟨if_neg (fun hh => by have := hh.2; omega)⟩
        go_wp2_with fail
        go_ret
        exact ⟨by rw [N2.out]; rfl, HB.out⟩
      · have q : decide (48 < l.length) = false := decide_eq_false g
        have N2 : Aside0 (chk l = 0) := ⟨if_pos ⟨HR2.out, by omega⟩⟩
        go_wp2_with fail
        go_ret
        exact ⟨by rw [N2.out]; rfl, HB.out⟩
end Go.Proofs.Ytlmnfnkjbgnklaa.Txn
end
