/- What is committed stays so; each node's turn comes in any n views: the plain law. -/
import Derived.Test.YtifhgfjohpbliaaPtx16
import Derived.Test.YtifhgfjohpbliaaMedian
set_option linter.unusedVariables false
set_option linter.unusedSimpArgs false
namespace Go.Proofs.Ytifhgfjohpbliaa.Pure
open Go.RowKit Go.Proofs.Ytifhgfjohpbliaa.Pt Go.Proofs.YtifhgfjohpbliaaW.PrintWords Go.Proofs.YtifhgfjohpbliaaW.PrintLast Go.Proofs.YtifhgfjohpbliaaW.PrintMore Go.Proofs.Ytifhgfjohpbliaa.GivenV Go.Proofs.Ytifhgfjohpbliaa.Vs Go.Proofs.Ytifhgfjohpbliaa.Vals

def nxt (more : List Int) (i a : Int) : Int := if i < (more.length : Int) ∧ rd more i > a ∧ rd more i ≤ 1099511627776 then rd more i else a
def nextF (more : List Int) : Int → List Int → List Int
  | _, [] => []
  | i, a :: l => nxt more i a :: nextF more (i + 1) l
theorem nxt_ge (more : List Int) (i a : Int) : a ≤ nxt more i a := by unfold nxt; split <;> omega
theorem nxt_in (more : List Int) (i a : Int) (h : inB a = true) : inB (nxt more i a) = true := by
  rw [in_iff] at h ⊢
  unfold nxt
  split <;> omega
theorem nextF_len (more : List Int) : ∀ (l : List Int) (i : Int), (nextF more i l).length = l.length
  | [], _ => rfl
  | a :: l, i => by simp [nextF, nextF_len more l]
theorem nextF_in (more : List Int) : ∀ (l : List Int) (i : Int), l.all inB = true → (nextF more i l).all inB = true
  | [], _, _ => rfl
  | a :: l, i, h => by
    simp only [List.all_cons, Bool.and_eq_true] at h
    simp only [nextF, List.all_cons, nxt_in more i a h.1, nextF_in more l (i + 1) h.2, Bool.and_self]
theorem nextF_have (more : List Int) (c : Int) : ∀ (l : List Int) (i : Int), have_ l c ≤ have_ (nextF more i l) c
  | [], _ => Nat.le_refl _
  | a :: l, i => by
    have ih := nextF_have more c l (i + 1)
    have hn := nxt_ge more i a
    unfold have_ at ih ⊢
    simp only [nextF, List.countP_cons]
    by_cases h : c ≤ a
    · have h2 : c ≤ nxt more i a := by omega
      simp only [h, h2, decide_true, if_true]; omega
    · simp only [h, decide_false]; simp; omega
def tail (k : Nat) (x0 : List Int) (x2 x7 x9 x10 : Int) (x11 : List Int) : Option Bool :=
  (view_Enough.f (x0.length : Int)).bind fun bt200 => ((view_Commit.f x11).bind fun bt202 => (if x9 < bt200.1 then (cartularylaw21_ViewGrows.j2 k x0 x2 true) else (if x10 ≥ bt200.1 then (cartularylaw21_ViewGrows.j2 k x0 x2 true) else (if bt202.2 = 0 then (cartularylaw21_ViewGrows.j2 k x0 x2 (decide (bt202.1 < x7))) else (cartularylaw21_ViewGrows.j2 k x0 x2 true)))))
theorem j1_eq (k : Nat) (x0 x1 : List Int) (x2 x7 x9 x10 : Int) (x11 : List Int) (i a : Int) (x33 : List Int) (x34 : Int) (hi : 0 ≤ i) (hi7 : i < 7) (hab : 0 ≤ x10) (hab7 : x10 < 7) (hl : x11.length < 17592186044416) :
    cartularylaw21_ViewGrows.j1 (k + 1) x0 x1 x2 x7 x9 x10 x11 i a x33 x34 i = cartularylaw21_ViewGrows.l0 k x0 x1 x2 x7 x9 (if a > x7 then x10 + 1 else x10) (x11 ++ [nxt x1 i a]) x33 x34 (i + 1) := by
  simp only [cartularylaw21_ViewGrows.j1]
  rw [wrap_id (n := i + 1) (by omega) (by omega), wrap_id (n := x10 + 1) (by omega) (by omega)]
  unfold nxt
  by_cases h1 : a > x7 <;> by_cases h2 : i < (x1.length : Int) <;> by_cases h3 : rd x1 i > a <;> by_cases h4 : rd x1 i ≤ 1099511627776 <;> simp [h1, h2, h3, h4, hi, hl]
theorem loop_ev (x0 more : List Int) (v c : Int) (h7 : x0.length ≤ 7) (wx : ∀ x ∈ x0, True) : ∀ (l : List Int) (i : Nat) (h ab : Int) (nx : List Int), x0.drop i = l → i + l.length = x0.length → 0 ≤ h → h ≤ i → 0 ≤ ab → ab ≤ i → nx.length = i →
    Ev (fun k => tail k x0 v c (h + have_ l c) (ab + above l c) (nx ++ nextF more i l)) true →
    Ev (fun k => cartularylaw21_ViewGrows.l0 k x0 more v c h ab nx x0 (x0.length : Int) i) true
  | [], i, h, ab, nx, hd, hl, _, _, _, _, _, hT => by
    refine Ev.step (f := fun k => tail k x0 v c h ab nx) (fun k => ?_) (by simpa [have_, above, nextF] using hT)
    simp only [cartularylaw21_ViewGrows.l0]
    rw [if_neg (by simp at hl; omega)]
    rfl
  | a :: l, i, h, ab, nx, hd, hl, h0, h1, h2, h3, hn, hT => by
    have hlt : i < x0.length := by simp at hl; omega
    have ha : rd x0 i = a ∧ x0.drop (i + 1) = l := by
      have := GivenV.drop_rd x0 i hlt
      rw [hd] at this
      simp only [List.cons.injEq] at this
      exact ⟨this.1.symm, this.2.symm⟩
    have ih := loop_ev x0 more v c h7 wx l (i + 1) (if a ≥ c then h + 1 else h) (if a > c then ab + 1 else ab) (nx ++ [nxt more i a]) ha.2 (by simp at hl; omega) (by split <;> omega) (by split <;> omega) (by split <;> omega) (by split <;> omega) (by simp [hn]) (by
      have e1 : (if a ≥ c then h + 1 else h) + (have_ l c : Int) = h + have_ (a :: l) c := by
        unfold have_; rw [List.countP_cons]; by_cases g : c ≤ a <;> simp [g, ge_iff_le] <;> omega
      have e2 : (if a > c then ab + 1 else ab) + (above l c : Int) = ab + above (a :: l) c := by
        unfold above; rw [List.countP_cons]; by_cases g : c < a <;> simp [g, gt_iff_lt] <;> omega
      have e3 : nx ++ [nxt more i a] ++ nextF more ((i + 1 : Nat) : Int) l = nx ++ nextF more i (a :: l) := by simp [nextF]
      rw [e1, e2, e3]
      exact hT)
    have hj : Ev (fun k => cartularylaw21_ViewGrows.j1 k x0 more v c (if a ≥ c then h + 1 else h) ab nx i a x0 (x0.length : Int) i) true := by
      refine Ev.step (fun k => j1_eq k x0 more v c _ ab nx i a x0 _ (by omega) (by omega) (by omega) (by omega) (by omega)) ?_
      exact ih
    refine Ev.step (f := fun k => cartularylaw21_ViewGrows.j1 k x0 more v c (if a ≥ c then h + 1 else h) ab nx i a x0 (x0.length : Int) i) (fun k => ?_) hj
    simp only [cartularylaw21_ViewGrows.l0]
    rw [if_pos (by omega), if_pos (by omega), if_pos (by omega), ha.1, wrap_id (n := h + 1) (by omega) (by omega)]
    by_cases g : a ≥ c
    · rw [if_pos g, if_pos g]
    · rw [if_neg g, if_neg g]
theorem turns_ev (x0 : List Int) (v : Int) (hn : nodesB x0.length = true) (h0 : 0 ≤ v) (h1 : v ≤ 549755813888) : ∀ (d : Nat) (i : Int), 0 ≤ i → i + d = x0.length → Ev (fun k => cartularylaw21_ViewGrows.l1 k x0 v (x0.length : Int) i) true
  | 0, i, hi, hd => by
    refine Ev.step (f := fun k => (cartularylaw21_speaks.f k).bind fun t207 => (some t207)) (fun k => ?_) (Ev.bind speaks_ev (Ev.now _))
    simp only [cartularylaw21_ViewGrows.l1]
    rw [if_neg (by omega)]
  | d + 1, i, hi, hd => by
    have hn' := (nodes_iff _).1 hn
    have hB := by_bounds (n := (x0.length : Int)) (v := v) (node := i) (by omega) (by omega)
    have e : next (x0.length : Int) v i = (v + by_ (x0.length : Int) v i, 0) := by
      unfold next
      have hc : nodesB (x0.length : Int) = true ∧ inB v = true ∧ 0 ≤ i ∧ i < (x0.length : Int) := ⟨hn, (in_iff v).2 ⟨h0, by omega⟩, hi, by omega⟩
      rw [if_pos hc, if_neg (by omega)]
    have hx := next_ev (x0.length : Int) v i
    rw [e] at hx
    refine Ev.step (f := fun k => (view_Next.f k (x0.length : Int) v i).bind fun bt205 => (if bt205.2 = 0 then (if bt205.1 ≤ v then (some false) else (if bt205.1 > (wrap64 (v + (x0.length : Int))) then (some false) else (cartularylaw21_ViewGrows.l1 k x0 v (x0.length : Int) (wrap64 (i + 1))))) else (some false))) (fun k => ?_) (Ev.bind hx (evP rfl (evN (by dsimp only; omega) (evN (by rw [wrap_id (n := v + (x0.length : Int)) (by omega) (by omega)]; dsimp only; omega) ?_))))
    · simp only [cartularylaw21_ViewGrows.l1]
      rw [if_pos (by omega)]
    · rw [wrap_id (n := i + 1) (by omega) (by omega)]
      exact turns_ev x0 v hn h0 h1 d (i + 1) (by omega) (by omega)
theorem ViewGrows : cartularylaw21_ViewGrows.Pure := by
  intro l more v _ _ _ _ _ _ _
  refine Ev.rounds (g := fun k => cartularylaw21_ViewGrows.f k l more v) ?_
  unfold cartularylaw21_ViewGrows.f
  rw [commit_f]
  simp only [Option.bind_some]
  unfold commit
  by_cases hc : nodesB l.length = true ∧ l.all inB = true
  · rw [if_pos hc]
    have hn' := (nodes_iff _).1 hc.1
    refine evP rfl ?_
    refine loop_ev l more v (med l) (by omega) (fun _ _ => trivial) l 0 0 0 [] rfl (by simp) (by omega) (by omega) (by omega) (by omega) rfl ?_
    rw [List.nil_append]
    unfold tail
    have g1 := have_med l (by omega)
    have g2 := above_med l (by omega)
    have hlen : (nextF more ((0 : Nat) : Int) l).length = l.length := nextF_len more l _
    have e2 : commit (nextF more ((0 : Nat) : Int) l) = (med (nextF more ((0 : Nat) : Int) l), 0) := by
      unfold commit
      have hc2 : nodesB (nextF more ((0 : Nat) : Int) l).length = true ∧ (nextF more ((0 : Nat) : Int) l).all inB = true := ⟨by rw [hlen]; exact hc.1, nextF_in more l _ hc.2⟩
      rw [if_pos hc2]
    have g3 := nextF_have more (med l) l ((0 : Nat) : Int)
    have g4 : med l ≤ med (nextF more ((0 : Nat) : Int) l) := by
      rcases Int.lt_or_le (med (nextF more ((0 : Nat) : Int) l)) (med l) with g | g
      · have q1 := have_le_above (l := nextF more ((0 : Nat) : Int) l) g
        have q2 := above_med (nextF more ((0 : Nat) : Int) l) (by omega)
        omega
      · exact g
    have e1 : enough (l.length : Int) = (((l.length : Int) + 1) / 2, 0) := by unfold enough; rw [if_pos hc.1]
    rw [enough_f, commit_f, e1, e2]
    simp only [Option.bind_some]
    refine evN (by omega) (evN (by omega) (evP trivial ?_))
    rw [decide_eq_false (by omega)]
    have j3t : Ev (fun k => cartularylaw21_ViewGrows.j3 k l v true) true := by
      refine Ev.step (f := fun k => (cartularylaw21_speaks.f k).bind fun t204 => (some t204)) (fun k => ?_) (Ev.bind speaks_ev (Ev.now _))
      simp only [cartularylaw21_ViewGrows.j3]
      exact if_pos trivial
    refine Ev.step (f := fun k => if v < 0 then (cartularylaw21_ViewGrows.j3 k l v true) else (cartularylaw21_ViewGrows.j3 k l v (decide (v > 549755813888)))) (fun k => ?_) ?_
    · simp only [cartularylaw21_ViewGrows.j2]
      rw [if_neg (by simp)]
    · by_cases h0 : v < 0
      · exact evP h0 j3t
      · refine evN h0 ?_
        by_cases h1 : v > 549755813888
        · rw [decide_eq_true h1]; exact j3t
        · rw [decide_eq_false h1]
          refine Ev.step (f := fun k => cartularylaw21_ViewGrows.l1 k l v (l.length : Int) 0) (fun k => ?_) (turns_ev l v hc.1 (by omega) (by omega) l.length 0 (by omega) (by omega))
          simp only [cartularylaw21_ViewGrows.j3]
          rw [if_neg (by simp)]
  · rw [if_neg hc]
    exact evN (by decide) (evP rfl (Ev.bind speaks_ev (Ev.now _)))
end Go.Proofs.Ytifhgfjohpbliaa.Pure
