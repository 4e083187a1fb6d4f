/- The greatest number that enough nodes have, and the best offer, as the document's answer has them: the plain law. -/
import Derived.Test.YtifhgfjohpbliaaPtx14
import Derived.Test.YtifhgfjohpbliaaBestPure
set_option linter.unusedVariables false
set_option linter.unusedSimpArgs false
namespace Go.Proofs.Ytifhgfjohpbliaa.Vs
open Go.RowKit Go.Proofs.Ytifhgfjohpbliaa.Pt Go.Proofs.YtifhgfjohpbliaaW.PrintWords Go.Proofs.YtifhgfjohpbliaaW.PrintLast Go.Proofs.YtifhgfjohpbliaaW.PrintMore Go.Proofs.Ytifhgfjohpbliaa.GivenV Go.Proofs.Ytifhgfjohpbliaa.Vals

theorem refnodes2_f (n : Int) : cartularyref21_Nodes.f n = some (nodesB n) := by
  unfold cartularyref21_Nodes.f nodesB
  by_cases h1 : n = 1
  · rw [if_pos h1]; simp [h1]
  rw [if_neg h1]
  by_cases h2 : n = 3
  · rw [if_pos h2]; simp [h2]
  rw [if_neg h2]
  by_cases h3 : n = 5
  · rw [if_pos h3]; simp [h3]
  rw [if_neg h3]
  by_cases h4 : n = 7 <;> simp [h1, h2, h3, h4]
theorem drop_eq {l : List Int} {i : Nat} {a : Int} {t : List Int} (h : l.drop i = a :: t) : i < l.length ∧ rd l i = a ∧ l.drop (i + 1) = t := by
  have hlt : i < l.length := by
    rcases Nat.lt_or_ge i l.length with g | g
    · exact g
    · rw [List.drop_of_length_le g] at h; cases h
  have := GivenV.drop_rd l i hlt
  rw [h] at this
  simp only [List.cons.injEq] at this
  exact ⟨hlt, this.1.symm, this.2.symm⟩
theorem drop_nil {l : List Int} {i : Nat} (h : l.drop i = []) : l.length ≤ i := by
  rcases Nat.lt_or_ge i l.length with g | g
  · rw [List.drop_eq_getElem_cons g] at h; cases h
  · exact g
/-- One node's number is tried. -/
def try_ (l : List Int) (b a : Int) : Int := if l.length < 2 * have_ l a ∧ b < a then a else b
theorem l2_ev (l : List Int) (h7 : l.length ≤ 7) {b a : Int} {i : Nat} (hi : i < l.length) {r : Int × Int} (hT : Ev (fun k => cartularyref21_Commit.l1 k l (try_ l b a) l (l.length : Int) ((i + 1 : Nat) : Int)) r) : ∀ (t : List Int) (j : Nat) (h : Int), l.drop j = t → 0 ≤ h → h ≤ j → h + have_ t a = have_ l a →
    Ev (fun k => cartularyref21_Commit.l2 k l b a h l (l.length : Int) i l (l.length : Int) j) r
  | [], j, h, hd, h0, h1, he => by
    have hj := drop_nil hd
    simp only [have_, List.countP_nil, Int.natCast_zero, Int.add_zero] at he
    have hc : (have_ l a : Int) ≤ l.length := by unfold have_; have := List.countP_le_length (p := fun x => decide (a ≤ x)) (l := l); omega
    refine Ev.step (f := fun k => cartularyref21_Commit.l1 k l (try_ l b a) l (l.length : Int) ((i + 1 : Nat) : Int)) (fun k => ?_) hT
    simp only [cartularyref21_Commit.l2]
    unfold have_ at hc
    rw [if_neg (by omega), wrap_id (n := 2 * h) (by omega) (by omega), wrap_id (n := (i : Int) + 1) (by omega) (by omega)]
    unfold try_ have_
    by_cases g1 : 2 * h > (l.length : Int)
    · rw [if_pos g1]
      by_cases g2 : a > b
      · rw [if_pos g2, if_pos ⟨by omega, by omega⟩]; rfl
      · rw [if_neg g2, if_neg (fun q => by omega)]; rfl
    · rw [if_neg g1, if_neg (fun q => by omega)]; rfl
  | x :: t, j, h, hd, h0, h1, he => by
    obtain ⟨hlt, e1, e2⟩ := drop_eq hd
    have ih := l2_ev l h7 hi hT t (j + 1) (if x ≥ a then h + 1 else h) e2 (by split <;> omega) (by split <;> omega) (by
      rw [← he]; unfold have_; rw [List.countP_cons]; by_cases g : a ≤ x <;> simp [g, ge_iff_le] <;> omega)
    refine Ev.step (f := fun k => cartularyref21_Commit.l2 k l b a (if x ≥ a then h + 1 else h) l (l.length : Int) i l (l.length : Int) ((j + 1 : Nat) : Int)) (fun k => ?_) ih
    simp only [cartularyref21_Commit.l2]
    rw [if_pos (by omega), if_pos (by omega), if_pos (by omega), e1, wrap_id (n := h + 1) (by omega) (by omega), wrap_id (n := (j : Int) + 1) (by omega) (by omega)]
    by_cases g : x ≥ a
    · rw [if_pos g, if_pos g]; rfl
    · rw [if_neg g, if_neg g]; rfl
theorem l1_ev (l : List Int) (h7 : l.length ≤ 7) : ∀ (t : List Int) (i : Nat) (b : Int), l.drop i = t → Ev (fun k => cartularyref21_Commit.l1 k l b l (l.length : Int) i) (t.foldl (try_ l) b, 0)
  | [], i, b, hd => by
    have hj := drop_nil hd
    refine Ev.step (f := fun k => some (b, 0)) (fun k => ?_) (Ev.now _)
    simp only [cartularyref21_Commit.l1]
    rw [if_neg (by omega)]
  | a :: t, i, b, hd => by
    obtain ⟨hlt, e1, e2⟩ := drop_eq hd
    have ih := l1_ev l h7 t (i + 1) (try_ l b a) e2
    refine Ev.step (f := fun k => cartularyref21_Commit.l2 k l b a 0 l (l.length : Int) i l (l.length : Int) 0) (fun k => ?_) (l2_ev l h7 hlt ih l 0 0 rfl (by omega) (by omega) (by omega))
    simp only [cartularyref21_Commit.l1]
    rw [if_pos (by omega), if_pos (by omega), if_pos (by omega), e1]
theorem l0_ev (l : List Int) (h7 : l.length ≤ 7) : ∀ (t : List Int) (i : Nat), l.drop i = t → Ev (fun k => cartularyref21_Commit.l0 k l 0 l (l.length : Int) i) (if t.all inB = true then (l.foldl (try_ l) 0, 0) else (0, 1))
  | [], i, hd => by
    have hj := drop_nil hd
    refine Ev.step (f := fun k => cartularyref21_Commit.l1 k l 0 l (l.length : Int) 0) (fun k => ?_) (l1_ev l h7 l 0 0 rfl)
    simp only [cartularyref21_Commit.l0]
    rw [if_neg (by omega)]
  | a :: t, i, hd => by
    obtain ⟨hlt, e1, e2⟩ := drop_eq hd
    have ih := l0_ev l h7 t (i + 1) e2
    by_cases ha : inB a = true
    · have g := (in_iff a).1 ha
      rw [List.all_cons, ha, Bool.true_and]
      refine Ev.step (f := fun k => cartularyref21_Commit.l0 k l 0 l (l.length : Int) ((i + 1 : Nat) : Int)) (fun k => ?_) ih
      simp only [cartularyref21_Commit.l0]
      rw [if_pos (by omega), if_pos (by omega), if_pos (by omega), e1, if_neg (by omega), if_neg (by omega), wrap_id (n := (i : Int) + 1) (by omega) (by omega)]
      rfl
    · have g : ¬ (0 ≤ a ∧ a ≤ 1099511627776) := fun q => ha ((in_iff a).2 q)
      rw [List.all_cons, if_neg (by simp [ha])]
      refine Ev.step (f := fun k => some (0, 1)) (fun k => ?_) (Ev.now _)
      simp only [cartularyref21_Commit.l0]
      rw [if_pos (by omega), if_pos (by omega), if_pos (by omega), e1]
      by_cases g2 : a < 0
      · rw [if_pos g2]
      · rw [if_neg g2, if_pos (by omega)]
theorem try_le (l : List Int) (c : Int) (hc : ∀ a, l.length < 2 * have_ l a → a ≤ c) : ∀ (t : List Int) (b : Int), b ≤ c → b ≤ t.foldl (try_ l) b ∧ t.foldl (try_ l) b ≤ c
  | [], b, h => ⟨Int.le_refl _, h⟩
  | a :: t, b, h => by
    have h1 : b ≤ try_ l b a ∧ try_ l b a ≤ c := by
      unfold try_
      split
      · rename_i q; exact ⟨by omega, hc a q.1⟩
      · exact ⟨Int.le_refl _, h⟩
    have := try_le l c hc t (try_ l b a) h1.2
    exact ⟨Int.le_trans h1.1 this.1, this.2⟩
theorem try_has (l : List Int) (c : Int) (hc : l.length < 2 * have_ l c) (hm : ∀ a, l.length < 2 * have_ l a → a ≤ c) : ∀ (t : List Int) (b : Int), c ∈ t → b ≤ c → c ≤ t.foldl (try_ l) b
  | [], _, h, _ => by simp at h
  | a :: t, b, h, hb => by
    have h1 : try_ l b a ≤ c := by
      unfold try_
      split
      · rename_i q; exact hm a q.1
      · exact hb
    rcases List.mem_cons.1 h with rfl | h
    · have h2 : c ≤ try_ l b c := by
        unfold try_
        split
        · exact Int.le_refl _
        · rename_i q
          rcases Int.lt_or_le b c with g | g
          · exact absurd ⟨hc, g⟩ q
          · exact g
      exact Int.le_trans h2 (try_le l c hm t _ h1).1
    · exact try_has l c hc hm t _ h h1
theorem fold_med {l : List Int} (hn : nodesB l.length = true) (hi : l.all inB = true) : l.foldl (try_ l) 0 = med l := by
  have hn' := (nodes_iff _).1 hn
  have h1 := have_med l (by omega)
  have hm : ∀ a, l.length < 2 * have_ l a → a ≤ med l := fun a ha => by
    rcases Int.lt_or_le (med l) a with g | g
    · have q1 := have_le_above (l := l) g
      have q2 := above_med l (by omega)
      omega
    · exact g
  have hc : l.length < 2 * have_ l (med l) := by omega
  have hin := (in_iff _).1 (List.all_eq_true.1 hi _ (med_mem l (by omega)))
  have := try_le l (med l) hm l 0 hin.1
  have := try_has l (med l) hc hm l 0 (med_mem l (by omega)) hin.1
  omega
theorem refcommit_ev (l : List Int) : Ev (fun k => cartularyref21_Commit.f k l) (commit l) := by
  unfold cartularyref21_Commit.f commit
  rw [refnodes2_f]
  simp only [Option.bind_some]
  by_cases h : nodesB l.length = true
  · have hn' := (nodes_iff _).1 h
    refine evP h ?_
    have e := l0_ev l (by omega) l 0 rfl
    by_cases h2 : l.all inB = true
    · have hc : nodesB (l.length : Int) = true ∧ l.all inB = true := ⟨h, h2⟩
      rw [if_pos h2, fold_med h h2] at e
      rw [if_pos hc]
      exact e
    · rw [if_neg h2] at e
      rw [if_neg (fun q => h2 q.2)]
      exact e
  · rw [if_neg (fun q => h q.1)]
    exact evN h (Ev.now _)

/-! The best offer. -/
def conv (x : Off) : S39 := ⟨x.f0, x.f1, x.f2⟩
theorem rd_conv (l : List Off) (i : Nat) (h : i < l.length) : rd_T39 (l.map conv) i = conv (rd_T38 l i) := by
  unfold rd_T39 rd_T38
  simp [List.getD_eq_getElem?_getD, h]
theorem dropO {l : List Off} {i : Nat} {a : Off} {t : List Off} (h : l.drop i = a :: t) : i < l.length ∧ rd_T38 l i = a ∧ l.drop (i + 1) = t := by
  have hlt : i < l.length := by
    rcases Nat.lt_or_ge i l.length with g | g
    · exact g
    · rw [List.drop_of_length_le g] at h; cases h
  have := GivenV.drop_off l i hlt
  rw [h] at this
  simp only [List.cons.injEq] at this
  exact ⟨hlt, this.1.symm, this.2.symm⟩
theorem dropO_nil {l : List Off} {i : Nat} (h : l.drop i = []) : l.length ≤ i := by
  rcases Nat.lt_or_ge i l.length with g | g
  · rw [List.drop_eq_getElem_cons g] at h; cases h
  · exact g
theorem refbetter_f (a b : Off) : cartularyref21_Better.f a.f0 a.f1 a.f2 b.f0 b.f1 b.f2 = some (better a b) := by
  unfold cartularyref21_Better.f better
  by_cases h1 : a.f1 > b.f1
  · rw [if_pos h1]; simp; omega
  · rw [if_neg h1]
    by_cases h2 : a.f1 = b.f1
    · rw [if_pos h2]; simp [h2]
    · rw [if_neg h2]; simp [h2]; omega
theorem inner_ev (l : List Off) (hl : l.length < 9223372036854775807) (a : Off) (i : Nat) (hi : i < l.length) {r : Int × Int} (t0 : List Off) : ∀ (t : List Off) (j : Nat) (ok : Bool), l.drop j = t →
    (Ev (fun k => if (ok && t.all fun b => !better b a) = true then some ((i : Int), (0 : Int)) else cartularyref21_Best.l0 k (l.map conv) (l.map conv) (l.length : Int) ((i + 1 : Nat) : Int)) r) →
    Ev (fun k => cartularyref21_Best.l1 k (l.map conv) i ok (l.map conv) (l.length : Int) i (l.map conv) (l.length : Int) j a.f0 a.f1 a.f2) r
  | [], j, ok, hd, hT => by
    have hj := dropO_nil hd
    refine Ev.step (f := fun k => if (ok && ([] : List Off).all fun b => !better b a) = true then some ((i : Int), (0 : Int)) else cartularyref21_Best.l0 k (l.map conv) (l.map conv) (l.length : Int) ((i + 1 : Nat) : Int)) (fun k => ?_) hT
    simp only [cartularyref21_Best.l1]
    rw [if_neg (by omega), wrap_id (n := (i : Int) + 1) (by omega) (by omega)]
    cases ok <;> simp
  | b :: t, j, ok, hd, hT => by
    obtain ⟨hlt, e1, e2⟩ := dropO hd
    have ih := inner_ev l hl a i hi (r := r) t0 t (j + 1) (ok && !better b a) e2 (by simpa [List.all_cons, Bool.and_assoc] using hT)
    refine Ev.step (f := fun k => cartularyref21_Best.l1 k (l.map conv) i (ok && !better b a) (l.map conv) (l.length : Int) i (l.map conv) (l.length : Int) ((j + 1 : Nat) : Int) a.f0 a.f1 a.f2) (fun k => ?_) ih
    simp only [cartularyref21_Best.l1]
    rw [if_pos (by omega), if_pos (by omega), if_pos (by rw [List.length_map]; omega), rd_conv l j hlt, e1, wrap_id (n := (j : Int) + 1) (by omega) (by omega)]
    have hb := refbetter_f b a
    simp only [conv]
    rw [hb]
    simp only [Option.bind_some]
    cases better b a with
    | true => rw [if_pos rfl]; simp
    | false => rw [if_neg (by simp)]; simp
/-- The first one than which none is better. -/
def firstR (l : List Off) : List Off → Int → Int × Int
  | [], _ => (0, 6)
  | a :: t, i => if (l.all fun b => !better b a) = true then (i, 0) else firstR l t (i + 1)
theorem outer_ev (l : List Off) (hl : l.length < 9223372036854775807) : ∀ (t : List Off) (i : Nat), l.drop i = t → Ev (fun k => cartularyref21_Best.l0 k (l.map conv) (l.map conv) (l.length : Int) i) (firstR l t i)
  | [], i, hd => by
    have hj := dropO_nil hd
    refine Ev.step (f := fun k => some (0, 6)) (fun k => ?_) (Ev.now _)
    simp only [cartularyref21_Best.l0]
    rw [if_neg (by omega)]
  | a :: t, i, hd => by
    obtain ⟨hlt, e1, e2⟩ := dropO hd
    have ih := outer_ev l hl t (i + 1) e2
    refine Ev.step (f := fun k => cartularyref21_Best.l1 k (l.map conv) i true (l.map conv) (l.length : Int) i (l.map conv) (l.length : Int) 0 a.f0 a.f1 a.f2) (fun k => ?_) (inner_ev l hl a i hlt [] l 0 true rfl ?_)
    · simp only [cartularyref21_Best.l0]
      rw [if_pos (by omega), if_pos (by omega), if_pos (by rw [List.length_map]; omega), rd_conv l i hlt, e1, List.length_map]
      simp only [conv]
    · simp only [firstR, Bool.true_and]
      by_cases h : (l.all fun b => !better b a) = true
      · rw [if_pos h]; exact evP h (Ev.now _)
      · rw [if_neg h]; exact evN h (by simpa using ih)
theorem first_find (l : List Off) (h : l ≠ []) : ∀ (t : List Off) (i : Int), (∀ x ∈ t, x ∈ l) → (∃ x ∈ t, likeB (bestO l) x = true) → firstR l t i = (findO (bestO l) t i, 0)
  | [], _, _, hx => by obtain ⟨x, hx, _⟩ := hx; simp at hx
  | a :: t, i, hs, hx => by
    obtain ⟨h1, h2⟩ := bestO_spec h
    simp only [firstR, findO_cons]
    have e : (l.all fun b => !better b a) = likeB (bestO l) a := by
      rw [Bool.eq_iff_iff, like_iff, List.all_eq_true]
      constructor
      · intro q
        have q1 := q _ h1
        have q2 := h2 a (hs a (.head _))
        simp only [Bool.not_eq_true'] at q1
        rw [better_not] at q1 q2
        omega
      · intro q b hb
        have q2 := h2 b hb
        simp only [Bool.not_eq_true']
        rw [better_not] at q2 ⊢
        omega
    rw [e]
    by_cases hl : likeB (bestO l) a = true
    · rw [if_pos hl, if_pos hl]
    · rw [if_neg hl, if_neg hl]
      obtain ⟨x, hx, hlx⟩ := hx
      refine first_find l h t (i + 1) (fun y hy => hs y (.tail _ hy)) ⟨x, ?_, hlx⟩
      rcases List.mem_cons.1 hx with rfl | hx
      · exact absurd hlx hl
      · exact hx
theorem refbest_ev (l : List Off) (hl : l.length < 9223372036854775807) : Ev (fun k => cartularyref21_Best.f k (l.map conv)) (best l) := by
  have h := outer_ev l hl l 0 rfl
  unfold cartularyref21_Best.f best
  rw [List.length_map]
  by_cases hn : l = []
  · rw [if_pos hn]
    subst hn
    exact h
  · rw [if_neg hn]
    rw [first_find l hn l ((0 : Nat) : Int) (fun _ hx => hx) ⟨_, (bestO_spec hn).1, like_self _⟩] at h
    exact h
theorem list_ev (m : List Off) (a b c d : Int) (hm : m.length ≤ 5864062014634) (hab : a = c) (hcd : b = d) : ∀ (t : List Off) (i : Nat) (x : List Off), m.drop i = t → x ++ t = m → x.length = i →
    Ev (fun k => cartularylaw21_ViewCommits.l0 k m a b c d (x.map conv) m (m.length : Int) i) true
  | [], i, x, hd, hx, hi => by
    have hj := dropO_nil hd
    rw [List.append_nil] at hx
    subst hx
    refine Ev.step (f := fun k => ((view_Best.f x).bind fun bt155 => ((cartularyref21_Best.f k (x.map conv)).bind fun bt157 => (if a = c then (if b = d then (if bt155.1 = bt157.1 then (if bt155.2 = bt157.2 then ((cartularylaw21_speaks.f k).bind fun t159 => (some t159)) else (some false)) else (some false)) else (some false)) else (some false))))) (fun k => ?_) ?_
    · simp only [cartularylaw21_ViewCommits.l0]
      rw [if_neg (by omega)]
    · rw [best_f x (by omega)]
      simp only [Option.bind_some]
      exact Ev.bind (refbest_ev x (by omega)) (evP hab (evP hcd (evP rfl (evP rfl (Ev.bind speaks_ev (Ev.now _))))))
  | y :: t, i, x, hd, hx, hi => by
    obtain ⟨hlt, e1, e2⟩ := dropO hd
    have ih := list_ev m a b c d hm hab hcd t (i + 1) (x ++ [y]) e2 (by simpa using hx) (by simp [hi])
    refine Ev.step (f := fun k => cartularylaw21_ViewCommits.l0 k m a b c d ((x ++ [y]).map conv) m (m.length : Int) ((i + 1 : Nat) : Int)) (fun k => ?_) ih
    simp only [cartularylaw21_ViewCommits.l0]
    rw [if_pos (by omega), if_pos (by omega), if_pos (by omega), if_pos (by rw [List.length_map]; omega), e1, wrap_id (n := (i : Int) + 1) (by omega) (by omega), List.map_append]
    rfl
theorem commits_ev (l : List Int) (m : List Off) (hm : m.length ≤ 5864062014634) : Ev (fun k => cartularylaw21_ViewCommits.f k l m) true := by
  unfold cartularylaw21_ViewCommits.f
  rw [commit_f]
  simp only [Option.bind_some]
  exact Ev.bind (refcommit_ev l) (list_ev m _ _ _ _ hm rfl rfl m 0 [] rfl rfl rfl)
end Go.Proofs.Ytifhgfjohpbliaa.Vs
