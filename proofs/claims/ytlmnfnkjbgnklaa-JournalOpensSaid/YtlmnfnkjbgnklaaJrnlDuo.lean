/- Two journals side by side: the program's and the document's; the comparison of writes. -/
import Derived.Test.YtlmnfnkjbgnklaaRefJB
import Derived.Test.YtlmnfnkjbgnklaaJrnlR
set_option linter.unusedVariables false
set_option linter.unusedSimpArgs false
namespace Go.Proofs.Ytlmnfnkjbgnklaa.Jrnl
open Go.RowKit Go.Proofs.YtlmnfnkjbgnklaaW.PrintWords Go.Proofs.YtlmnfnkjbgnklaaW.PrintLast Go.Proofs.YtlmnfnkjbgnklaaW.PrintMore Go.Proofs.Ytlmnfnkjbgnklaa.TxnS Go.Proofs.Ytlmnfnkjbgnklaa.Txn Go.Proofs.Ytlmnfnkjbgnklaa.JS Go.Proofs.Ytlmnfnkjbgnklaa.Run Go.Proofs.Ytlmnfnkjbgnklaa.Spec
structure DS (W w : World) (jb rb : Nat) (v v2 : Value) (us : List Value) (J : Jr) (R : RJ) : Prop where
  j : JIs W.heap.size w jb v J
  r : RIs W.heap.size w rb v2 us R
  b : Below W.heap.size W w
  d : ∀ k, fp jb v k → ¬ fp rb v2 k
  du : ∀ u ∈ us, ∀ k, rd u k → ¬ fp jb v k
section
variable {W w w' : World} {jb rb : Nat} {v v2 : Value} {us : List Value} {J J' : Jr} {R R' : RJ}
theorem DS.below (h : DS W w jb rb v v2 us J R) (hb : Below w.heap.size w w') : DS W w' jb rb v v2 us J R := ⟨h.j.below hb, h.r.below hb, h.b.trans (hb.mono h.b.size), h.d, h.du⟩
theorem DS.left {v' : Value} (h : DS W w jb rb v v2 us J R) (hj : JIs W.heap.size w' jb v' J') (hf : Fr w w' (fp jb v)) (hp : ∀ k, fp jb v' k → fp jb v k ∨ w.heap.size ≤ k) : DS W w' jb rb v' v2 us J' R := by
  refine ⟨hj, h.r.fr hf (fun k hk hk2 => h.d k hk2 hk) h.du, Fr.below h.b hf (fun k hk => h.j.ge hk) h.b.size, fun k hk hk2 => ?_, fun u hu k hk hf2 => ?_⟩
  · rcases hp k hk with h1 | h1
    · exact h.d k h1 hk2
    · have := h.r.lt hk2
      omega
  · rcases hp k hf2 with h1 | h1
    · exact h.du u hu k hk h1
    · have := (h.r.lo u hu k hk).1
      omega
theorem DS.right {v2' : Value} {us' : List Value} (h : DS W w jb rb v v2 us J R) (hr : RIs W.heap.size w' rb v2' us' R') (hf : Fr w w' (fp rb v2)) (hp : ∀ k, fp rb v2' k → fp rb v2 k ∨ w.heap.size ≤ k) (hu : ∀ u ∈ us', u ∈ us ∨ ∀ k, rd u k → ¬ fp jb v k) : DS W w' jb rb v v2' us' J R' := by
  refine ⟨h.j.fr hf h.d, hr, Fr.below h.b hf (fun k hk => h.r.ge hk) h.b.size, fun k hk hk2 => ?_, fun u hm k hk => ?_⟩
  · rcases hp k hk2 with h1 | h1
    · exact h.d k hk h1
    · have := h.j.lt hk
      omega
  · rcases hu u hm with h1 | h1
    · exact h.du u h1 k hk
    · exact h1 k hk
theorem own_chs' {w : World} {base n c : Nat} {e : TypeId} {A : Option Addr} {l : List Ch} (h : w.ownsRow base e 2 (.slice A n c) n (cv l)) (hn : n = l.length) : Chs w A l := by
  subst hn
  intro i hi
  rcases h.2 with ⟨h1, h2⟩ | ⟨g, cap, cur, h1, _⟩
  · simp only [Value.slice.injEq] at h1; omega
  · simp only [Value.slice.injEq] at h1
    obtain ⟨rfl, -, rfl⟩ := h1
    have hadd : (⟨g, 0, none⟩ : Addr).add (i * 2) = ⟨g, i * 2, none⟩ := by unfold Addr.add; split <;> simp_all
    refine ⟨⟨g, 0, none⟩, rfl, ?_, ?_⟩
    · rw [hadd]; exact (World.ownsRow.cellAt h (i * 2) (by omega)).trans (cv_at l i hi).1
    · rw [hadd]; exact (World.ownsRow.cellAt h (i * 2 + 1) (by omega)).trans (cv_at l i hi).2
set_option maxHeartbeats 3200000 in
set_option maxRecDepth 100000 in
theorem writes_calls (l : List Ch) (A A2 : Option Addr) (c c2 : Nat) (w : World) (h1 : Chs w A l) (h2 : Chs w A2 l) (hl : l.length ≤ 1125899906842624) : Calls Try.prog 13 #[.slice A l.length c, .slice A2 l.length c2] w fun e w' => e = .returned (.bool true) ∧ Below w.heap.size w w' := by
  have hu1 := Try.underlying42
  have hu2 := Try.underlying45
  have H1 := Aside0.mk h1
  have H2 := Aside0.mk h2
  clear h1 h2
  go_enter Try.func13, Try.ntmps13
  go_wp2_with fail
  go_loopw [13] (fun v13 wr => ∃ i : Nat, i ≤ l.length ∧ v13 = .int .i64 (i : Int) ∧ Aside0 (Below w.heap.size w wr)) (fun x _ => l.length - (intOf x).toNat)
  case atStart => exact ⟨0, by omega, rfl, ⟨Below.refl _ _⟩⟩
  case round =>
    obtain ⟨i, hi, rfl, HB⟩ := hrel
    by_cases hlt : i < l.length
    · obtain ⟨ad, rfl, e0, e1⟩ := (H1.out.below HB.out) i hlt
      obtain ⟨ad2, rfl, d0, d1⟩ := (H2.out.below HB.out) i hlt
      generalize l[i] = x at e0 e1 d0 d1
      obtain ⟨a, s⟩ := x
      dsimp only at e0 e1 d0 d1
      have qn : (s.toList == s.toList) = true := by simp
      go_wp2_with fail
      go_big_quiet (fail)
      go_wp2_with fail
      go_roundw
      case rel => exact ⟨i + 1, by omega, by simp, ⟨below_n HB.out _⟩⟩
      case measure => simp [intOf]; omega
    · obtain rfl : i = l.length := by omega
      go_wp2_with fail
      go_ret
      exact ⟨rfl, HB.out⟩
def appR (R : RJ) (l : List Ch) : RJ := if ¬ right l then R else if ¬ room R.jr l.length then R else pushR R l
theorem appR_jr (R : RJ) (l : List Ch) : (appR R l).jr = (appJ R.jr l).2.2 := by
  unfold appR appJ
  split
  · rfl
  · split
    · rfl
    · exact pushR_jr R l
theorem rappend_calls {B : Nat} (h : RIs B w rb v2 us R) (hw : JW R.jr) (hB : B ≤ w.heap.size) (l : List Ch) (A : Option Addr) (c : Nat) (hc : Chs w A l) (hcl : ∀ k, rd (.slice A l.length c) k → k < w.heap.size ∧ ¬ fp rb v2 k) (hl : l.length ≤ 1125899906842624) :
    Calls Try.prog 12 #[ptr rb, .slice A l.length c] w (fun e w' => ∃ us', RAPost B rb v2 us w ((appJ R.jr l).1, (appJ R.jr l).2.1) us' (appR R l) e w' ∧ ∀ u ∈ us', u ∈ us ∨ u = .slice A l.length c) := by
  by_cases hr : right l
  · by_cases hm : room R.jr l.length
    · have e1 : appJ R.jr l = (wsJ R.jr l, 0, pushJ R.jr (l.length + 1)) := by unfold appJ; rw [if_neg (fun e => e hr), if_neg (fun e => e hm)]
      have e2 : appR R l = pushR R l := by unfold appR; rw [if_neg (fun e => e hr), if_neg (fun e => e hm)]
      rw [e1, e2]
      refine (rappend_yes h hw hB l A c hc hcl hr hm).mono fun e w' hp => ⟨_, hp, fun u hu => ?_⟩
      rcases List.mem_append.1 hu with hu | hu
      · exact .inl hu
      · exact .inr (by simpa using hu)
    · have e1 : appJ R.jr l = ([], 5, R.jr) := by unfold appJ; rw [if_neg (fun e => e hr), if_pos hm]
      have e2 : appR R l = R := by unfold appR; rw [if_neg (fun e => e hr), if_pos hm]
      rw [e1, e2]
      refine (rappend_no2 h hw l A c hc hr hm).mono ?_
      rintro e w' ⟨rfl, hb⟩
      exact ⟨us, ⟨_, v2, rfl, own_nil _ _ _ _, h.below hb, Fr.of_below hb _, fun _ hk => .inl hk, fun k hk => by cases hk⟩, fun u hu => .inl hu⟩
  · have e1 : appJ R.jr l = ([], 70, R.jr) := by unfold appJ; rw [if_pos hr]
    have e2 : appR R l = R := by unfold appR; rw [if_pos hr]
    rw [e1, e2]
    refine (rappend_no1 l A c hc hl hr).mono ?_
    rintro e w' ⟨rfl, hb⟩
    exact ⟨us, ⟨_, v2, rfl, own_nil _ _ _ _, h.below hb, Fr.of_below hb _, fun _ hk => .inl hk, fun k hk => by cases hk⟩, fun u hu => .inl hu⟩
end
end Go.Proofs.Ytlmnfnkjbgnklaa.Jrnl
