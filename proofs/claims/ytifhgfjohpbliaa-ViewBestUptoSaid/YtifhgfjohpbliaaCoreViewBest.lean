/- Of every two lists of offers that hold no more than the second form's bound: ViewBest answers true, and what was in memory stays. -/
import Derived.Test.YtifhgfjohpbliaaVBest
import Derived.Test.YtifhgfjohpbliaaBestPure
import Derived.Test.YtifhgfjohpbliaaOpenU
set_option linter.unusedVariables false
set_option linter.unusedSimpArgs false
namespace Go.Proofs.Ytifhgfjohpbliaa.Core
open Go.RowKit Go.Proofs.Ytifhgfjohpbliaa.Pt Go.Proofs.YtifhgfjohpbliaaW.PrintWords Go.Proofs.YtifhgfjohpbliaaW.PrintLast Go.Proofs.YtifhgfjohpbliaaW.PrintMore Go.Proofs.Ytifhgfjohpbliaa.GivenV Go.Proofs.Ytifhgfjohpbliaa.Vs Go.Proofs.Ytifhgfjohpbliaa.OpenU

theorem sum_one {α : Type} (l : List α) : (l.map fun _ => 1).sum = l.length := by
  induction l with
  | nil => rfl
  | cons x l ih => simp only [List.map_cons, List.sum_cons, List.length_cons, ih]; omega
theorem opens_offer : Opens Try.prog 38 k38 (fun _ => True) (fun _ => 1) :=
  Opens.mono (opens_iso _ (fun x => ⟨x.1, x.2.1, x.2.2⟩) (fun _ => rfl) (opens_struct Try.underlying38 rfl (opensF_cons (opens_int Try.underlying3) (by kernel_rfl) (opensF_cons (opens_int Try.underlying3) (by kernel_rfl) (opensF_one (opens_int Try.underlying3) (by kernel_rfl)) rfl) rfl) (by kernel_rfl))) (fun _ _ => trivial) (fun _ => by omega)
theorem opens_offers : Opens Try.prog 33 (Kd.slice 38 k38) (fun l => l.length * 24 ≤ 140737488351232) (fun l => l.length) :=
  Opens.mono (opens_slice Try.underlying33 opens_offer (by kernel_rfl) (by_ := 24) (by kernel_rfl)) (fun x h => h.1) (fun x => by rw [sum_one]; omega)

theorem dropO {l : List Off} {i : Nat} {a : Off} {t : List Off} (h : l.drop i = a :: t) : i < l.length ∧ rd_T38 l i = a ∧ l.drop (i + 1) = t := by
  have hlt : i < l.length := by
    rcases Nat.lt_or_ge i l.length with g | g
    · exact g
    · rw [List.drop_of_length_le g] at h; cases h
  have := GivenV.drop_off l i hlt
  rw [h] at this
  simp only [List.cons.injEq] at this
  exact ⟨hlt, this.1.symm, this.2.symm⟩
theorem dropO_nil {l : List Off} {i : Nat} (h : l.drop i = []) : l.length ≤ i := by
  rcases Nat.lt_or_ge i l.length with g | g
  · rw [List.drop_eq_getElem_cons g] at h; cases h
  · exact g
section
variable (l m : List Off) (k : Nat) (hk : k < l.length) (hl : l.length ≤ 1048576) (hm : m.length ≤ 1048576) (hb : best l = ((k : Int), 0))
include hk hl hm hb
theorem l1_ev : ∀ (t : List Off) (i : Nat) (e : List Off), m.drop i = t → i ≤ m.length → e.length ≤ i → (∀ x ∈ e, better x (rd_T38 l k) = false) →
    Ev (fun n => cartularylaw21_ViewBest.l1 n l k (l ++ e) m (m.length : Int) i) true
  | [], i, e, hd, hi, he, hx => by
    have hj := dropO_nil hd
    have hne : l ≠ [] := by intro q; rw [q] at hk; simp at hk
    refine Ev.step (f := fun n => ((view_Best.f (l ++ e)).bind fun bt144 => (if bt144.2 = 0 then (if bt144.1 = (k : Int) then ((cartularylaw21_speaks.f n).bind fun t146 => (some t146)) else (some false)) else (some false)))) (fun n => ?_) ?_
    · simp only [cartularylaw21_ViewBest.l1]
      rw [if_neg (by omega)]
    · rw [best_f (l ++ e) (by rw [List.length_append]; omega), best_app hne hb hx]
      simp only [Option.bind_some]
      exact evP trivial (evP trivial (Ev.bind speaks_ev (Ev.now _)))
  | a :: t, i, e, hd, hi, he, hx => by
    obtain ⟨hlt, e1, e2⟩ := dropO hd
    have skip := l1_ev t (i + 1) e e2 (by omega) (by omega) hx
    by_cases hba : better a (rd_T38 l k) = true
    · have hba' := hba
      rw [better_iff] at hba'
      refine Ev.step (f := fun n => cartularylaw21_ViewBest.l1 n l k (l ++ e) m (m.length : Int) ((i + 1 : Nat) : Int)) (fun n => ?_) skip
      simp only [cartularylaw21_ViewBest.l1]
      rw [if_pos (by omega), if_pos (by omega), if_pos (by omega), if_pos (by omega), if_pos (by omega), e1, wrap_id (n := (i : Int) + 1) (by omega) (by omega), if_neg (by omega)]
      by_cases g : a.f1 = (rd_T38 l k).f1
      · rw [if_pos g, if_neg (by omega)]; rfl
      · rw [if_neg g]; rfl
    · have hbf : better a (rd_T38 l k) = false := by simpa using hba
      have hba' := hbf
      rw [better_not] at hba'
      have take := l1_ev t (i + 1) (e ++ [a]) e2 (by omega) (by simp; omega) (fun x hx' => by
        rcases List.mem_append.1 hx' with h | h
        · exact hx x h
        · obtain rfl : x = a := by simpa using h
          exact hbf)
      refine Ev.step (f := fun n => cartularylaw21_ViewBest.l1 n l k (l ++ (e ++ [a])) m (m.length : Int) ((i + 1 : Nat) : Int)) (fun n => ?_) take
      simp only [cartularylaw21_ViewBest.l1]
      have hlen : (l ++ e).length < 5864062014805 := by rw [List.length_append]; omega
      rw [if_pos (by omega), if_pos (by omega), if_pos (by omega), if_pos (by omega), if_pos (by omega), e1, wrap_id (n := (i : Int) + 1) (by omega) (by omega), ← List.append_assoc]
      by_cases g1 : a.f1 < (rd_T38 l k).f1
      · rw [if_pos g1, if_pos hlen]; rfl
      · rw [if_neg g1, if_pos (by omega), if_pos (by omega), if_pos hlen]; rfl
theorem l0_ev (hbest : ∀ x ∈ l, better x (rd_T38 l k) = false) : ∀ (t : List Off) (i : Nat), l.drop i = t → (∀ x ∈ t, x ∈ l) → Ev (fun n => cartularylaw21_ViewBest.l0 n l m k l l (l.length : Int) i) true
  | [], i, hd, _ => by
    have hj := dropO_nil hd
    have h := l1_ev l m k hk hl hm hb m 0 [] rfl (by omega) (by simp) (fun x hx => by simp at hx)
    rw [List.append_nil] at h
    refine Ev.step (f := fun n => cartularylaw21_ViewBest.l1 n l k l m (m.length : Int) 0) (fun n => ?_) h
    simp only [cartularylaw21_ViewBest.l0]
    rw [if_neg (by omega)]
  | a :: t, i, hd, hs => by
    obtain ⟨hlt, e1, e2⟩ := dropO hd
    have ih := l0_ev hbest t (i + 1) e2 (fun x hx => hs x (.tail _ hx))
    have hba := hbest a (hs a (.head _))
    rw [better_not] at hba
    refine Ev.step (f := fun n => cartularylaw21_ViewBest.l0 n l m k l l (l.length : Int) ((i + 1 : Nat) : Int)) (fun n => ?_) ih
    simp only [cartularylaw21_ViewBest.l0]
    rw [if_pos (by omega), if_pos (by omega), if_pos (by omega), if_pos (by omega), if_pos (by omega), e1, wrap_id (n := (i : Int) + 1) (by omega) (by omega), if_neg (by omega)]
    by_cases g : a.f1 = (rd_T38 l k).f1
    · rw [if_pos g, if_neg (by omega)]; rfl
    · rw [if_neg g]; rfl
end
theorem best_ev (l m : List Off) (hl : l.length ≤ 1048576) (hm : m.length ≤ 1048576) : Ev (fun n => cartularylaw21_ViewBest.f n l m) true := by
  unfold cartularylaw21_ViewBest.f
  rw [best_f l (by omega)]
  simp only [Option.bind_some]
  by_cases hn : l = []
  · subst hn
    exact evN (by decide) (evP rfl (evP rfl (Ev.bind speaks_ev (Ev.now _))))
  · obtain ⟨k, hk, hb, hx⟩ := best_at hn
    rw [hb]
    refine evP rfl (evN (by dsimp only; omega) ?_)
    rw [decide_eq_false (by dsimp only; omega)]
    refine Ev.step (f := fun n => cartularylaw21_ViewBest.l0 n l m k l l (l.length : Int) 0) (fun n => ?_) (l0_ev l m k hk hl hm hb hx l 0 rfl (fun _ h => h))
    simp only [cartularylaw21_ViewBest.j0]
    rw [if_neg (by simp), if_pos (by simp; omega), List.nil_append]
theorem ViewBest (W : World) (A0 : Option Addr) (n0 c0 : Nat) (l0 : List Off) (h0 : (Kd.slice 38 k38).K W l0 [.slice A0 n0 c0]) (g0 : l0.length * 24 ≤ 140737488351232) (u0 : l0.length ≤ 1048576)
    (A1 : Option Addr) (n1 c1 : Nat) (l1 : List Off) (h1 : (Kd.slice 38 k38).K W l1 [.slice A1 n1 c1]) (g1 : l1.length * 24 ≤ 140737488351232) (u1 : l1.length ≤ 1048576) :
    Calls Try.prog 7 #[.slice A0 n0 c0, .slice A1 n1 c1] W fun e W' => e = .returned (.bool true) ∧ Below W.heap.size W W' := by
  obtain ⟨A0', c0', he, hc0, hC0⟩ := h0
  obtain ⟨rfl, rfl, rfl⟩ : A0 = A0' ∧ n0 = l0.length ∧ c0 = c0' := by simpa using he
  obtain ⟨A1', c1', he, hc1, hC1⟩ := h1
  obtain ⟨rfl, rfl, rfl⟩ : A1 = A1' ∧ n1 = l1.length ∧ c1 = c1' := by simpa using he
  obtain ⟨k, hk⟩ := (best_ev l0 l1 u0 u1).rounds
  exact cartularylaw21_ViewBest.calls k A0 c0 l0 A1 c1 l1 true W hC0 hc0 hC1 hc1 hk
end Go.Proofs.Ytifhgfjohpbliaa.Core
