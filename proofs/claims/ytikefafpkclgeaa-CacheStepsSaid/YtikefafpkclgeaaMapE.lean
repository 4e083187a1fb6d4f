/- An entry of a map, found and stored ('m[k]++'): general. -/
import Derived.Test.YtikefafpkclgeaaMapF
import Derived.TacticsIn
import Derived.OwnWalkIn
set_option linter.unusedVariables false
set_option linter.unusedSimpArgs false
set_option linter.unusedSectionVars false
namespace Go.Proofs.Ytikefafpkclgeaa.Maps
open Go.MapKept
theorem nodup_ix {α β : Type} (g : α → β) : ∀ (l : List α), (l.map g).Nodup → ∀ (i j : Nat) (x y : α), l[i]? = some x → l[j]? = some y → g x = g y → i = j
  | [], _, _, _, _, _, h, _, _ => by simp at h
  | a :: l, hn, i, j, x, y, hi, hj, e => by
    rw [List.map_cons, List.nodup_cons] at hn
    cases i with
    | zero =>
      cases j with
      | zero => rfl
      | succ j =>
        simp only [List.getElem?_cons_zero, Option.some.injEq, List.getElem?_cons_succ] at hi hj
        subst hi
        exact absurd (List.mem_map.2 ⟨y, List.mem_of_getElem? hj, e.symm⟩) hn.1
    | succ i =>
      cases j with
      | zero =>
        simp only [List.getElem?_cons_zero, Option.some.injEq, List.getElem?_cons_succ] at hi hj
        subst hj
        exact absurd (List.mem_map.2 ⟨x, List.mem_of_getElem? hi, e⟩) hn.1
      | succ j =>
        simp only [List.getElem?_cons_succ] at hi hj
        rw [nodup_ix g l hn.2 i j x y hi hj e]
theorem born_ix {es : Array MapEntry} {clock m : Nat} {e : MapEntry} (h : Born es clock) (hm : es[m]? = some e) : es.findIdx? (fun x => (x.born : Int) == (e.born : Int)) = some m := by
  have hlt : m < es.size := (Array.getElem?_eq_some_iff.1 hm).1
  have he : es[m] = e := (Array.getElem?_eq_some_iff.1 hm).2
  rw [Array.findIdx?_eq_some_iff_getElem]
  refine ⟨hlt, by rw [he]; simp, fun j hj hp => ?_⟩
  have h1 : es[j].born = e.born := by
    have := of_decide_eq_true (by simpa using hp)
    exact_mod_cast this
  have hjl : j < es.size := by omega
  have := nodup_ix (·.born) es.toList h.2 j m es[j] e (by rw [Array.getElem?_toList, Array.getElem?_eq_getElem hjl]) (by rw [Array.getElem?_toList, hm]) h1
  omega
section
variable {κ : Type} [DecidableEq κ] {P : Program} {kt et t : TypeId} {kv : κ → Value} {w w' : World} {b : Nat} {l : List (κ × Value)}
theorem MapIs.entry (h : MapIs w kv b l) (K : KeyLaw P kt kv) (ht : P.underlying t = some (.map kt et)) {z : Value} (hz : (zeroValue et).run P w = .ok z w) (k : κ) :
    ∃ w1 st, (Instr.mapEntry t (.map (some b)) (kv k)).run P w = .ok (.tuple #[(mget l k).getD z, .int .i64 ((st : Nat) : Int)]) w1 ∧ MapIs w1 kv b (mput l k ((mget l k).getD z)) ∧ w.grownBy w1 (some b) ∧ w1.heap.size = w.heap.size ∧
      ∀ W, W.heap[b]? = w1.heap[b]? → ∀ v, ∃ w2, (Instr.entryStore t (.map (some b)) (.int .i64 ((st : Nat) : Int)) v).run P W = .ok () w2 ∧ MapIs w2 kv b (mput l k v) ∧ W.grownBy w2 (some b) ∧ w2.heap.size = W.heap.size := by
  obtain ⟨es, clock, hb, he, hbn⟩ := h
  have hf := K.find w k es.toList l he
  cases ha : at_ l k 0 with
  | none =>
    rw [ha] at hf
    have hg := (at_none ha).1
    have hp := (at_none ha).2
    rw [hg]
    have hbn2 := hbn.push (kv k) z
    refine ⟨{ w with heap := w.heap.setIfInBounds b (.map (es.push { key := kv k, val := z, born := clock }) (clock + 1)) }, clock, ?_, ⟨_, _, (MapKept.heap_set hb).1, ?_, hbn2⟩, ⟨rfl, rfl, rfl, by simp, fun i _ hi => (MapKept.heap_set hb).2 i (fun e => hi (by rw [e]))⟩, by simp, fun W hW v => ?_⟩
    · simp [Instr.mapEntry, run_underlying ht, MapKept.run_getObj_map hb, K.check, hf, hz, MapKept.run_setObj_map _ hb, Result.andThen, goInt]
    · rw [hp]; simp [he]
    · have hWb := hW.trans (MapKept.heap_set hb).1
      have hix := born_ix (m := es.size) (e := { key := kv k, val := z, born := clock }) hbn2 (by simp)
      refine ⟨{ W with heap := W.heap.setIfInBounds b (.map ((es.push { key := kv k, val := z, born := clock }).modify es.size fun e => { e with val := v }) (clock + 1)) }, ?_, ⟨_, _, (MapKept.heap_set hWb).1, ?_, ?_⟩, ⟨rfl, rfl, rfl, by simp, fun i _ hi => (MapKept.heap_set hWb).2 i (fun e => hi (by rw [e]))⟩, by simp⟩
      · have hai : ∀ x : Int, Sem.run P (asInt (.int .i64 x)) W = .ok x W := fun _ => rfl
        simp only [Instr.entryStore, Sem.run_bind, MapKept.run_getObj_map hWb, Result.andThen, hai]
        try dsimp only at hix
        rw [hix]
        exact MapKept.run_setObj_map _ hWb
      · rw [set_modify _ es.size _ (kv k, v) (fun e he2 => by
          have : e = { key := kv k, val := z, born := clock } := by simpa using he2.symm
          rw [this])]
        rw [hp]
        simp [he, List.set_append]
        have hl : es.size = l.length := by have := congrArg List.length he; simpa using this
        simp [hl]
      · have := hbn2.modify es.size (kv k) v
        have e : (es.push { key := kv k, val := z, born := clock }).modify es.size (fun e => { e with val := v }) = (es.push { key := kv k, val := z, born := clock }).modify es.size (fun e => { e with key := kv k, val := v }) := by
          apply Array.ext_getElem?
          intro i
          rw [Array.getElem?_modify, Array.getElem?_modify]
          by_cases hi : es.size = i
          · subst hi; simp
          · simp [hi]
        rw [e]
        exact this
  | some r =>
    obtain ⟨j, v0⟩ := r
    rw [ha] at hf
    obtain ⟨m, rfl, hm, hl, hp, _⟩ := at_some ha
    rw [Nat.zero_add] at hf
    have hes : ∃ e, es[m]? = some e ∧ e.key = kv k ∧ e.val = v0 := by
      have h1 := congrArg (fun x => x[m]?) he
      simp only [List.getElem?_map, hm, Option.map_some, Array.getElem?_toList] at h1
      obtain ⟨e, h2, h3⟩ := Option.map_eq_some_iff.1 h1
      exact ⟨e, h2, by simpa using congrArg Prod.fst h3, by simpa using congrArg Prod.snd h3⟩
    obtain ⟨e, he1, he2, he3⟩ := hes
    have hsame : es.modify m (fun e => { e with key := kv k }) = es := by
      apply Array.ext_getElem?
      intro i
      rw [Array.getElem?_modify]
      by_cases hi : m = i
      · subst hi
        rw [if_pos rfl, he1]
        simp [← he2]
      · rw [if_neg hi]
    rw [hl]
    refine ⟨{ w with heap := w.heap.setIfInBounds b (.map es clock) }, e.born, ?_, ⟨_, _, (MapKept.heap_set hb).1, ?_, hbn⟩, ⟨rfl, rfl, rfl, by simp, fun i _ hi => (MapKept.heap_set hb).2 i (fun e => hi (by rw [e]))⟩, by simp, fun W hW v => ?_⟩
    · simp [Instr.mapEntry, run_underlying ht, MapKept.run_getObj_map hb, K.check, hf, he1, he2, K.stays, hsame, MapKept.run_setObj_map _ hb, Result.andThen, goInt]
    · rw [hp]
      show es.toList.map _ = _
      rw [he]
      apply List.ext_getElem?
      intro i
      rw [List.getElem?_map, List.getElem?_map, List.getElem?_set]
      by_cases hi : m = i
      · subst hi
        have hlt : m < l.length := (List.getElem?_eq_some_iff.1 hm).1
        rw [if_pos rfl, if_pos hlt, hm]
        rfl
      · rw [if_neg hi]
    · have hWb := hW.trans (MapKept.heap_set hb).1
      have hix := born_ix hbn he1
      refine ⟨{ W with heap := W.heap.setIfInBounds b (.map (es.modify m fun e => { e with val := v }) clock) }, ?_, ⟨_, _, (MapKept.heap_set hWb).1, ?_, ?_⟩, ⟨rfl, rfl, rfl, by simp, fun i _ hi => (MapKept.heap_set hWb).2 i (fun e => hi (by rw [e]))⟩, by simp⟩
      · have hai : ∀ x : Int, Sem.run P (asInt (.int .i64 x)) W = .ok x W := fun _ => rfl
        simp only [Instr.entryStore, Sem.run_bind, MapKept.run_getObj_map hWb, Result.andThen, hai]
        try dsimp only at hix
        rw [hix]
        exact MapKept.run_setObj_map _ hWb
      · rw [set_modify _ m _ (kv k, v) (fun e' he' => by
          have : e' = e := by rw [he1] at he'; exact (Option.some.inj he').symm
          rw [this, he2])]
        rw [hp, he, List.map_set]
      · have := hbn.modify m (kv k) v
        have e : es.modify m (fun e => { e with val := v }) = es.modify m (fun e => { e with key := kv k, val := v }) := by
          apply Array.ext_getElem?
          intro i
          rw [Array.getElem?_modify, Array.getElem?_modify]
          by_cases hi : m = i
          · subst hi
            rw [if_pos rfl, if_pos rfl, he1]
            simp [he2]
          · rw [if_neg hi, if_neg hi]
        rw [e]
        exact this
end
section
variable {κ : Type} [DecidableEq κ]
theorem keys_mdel : ∀ (l : List (κ × Value)) (k : κ), (l.map (·.1)).Nodup → ((mdel l k).map (·.1)).Nodup ∧ ∀ c, mget (mdel l k) c = if k = c then none else mget l c
  | [], k, _ => ⟨by simp [mdel], fun c => by simp [mdel, mget]⟩
  | p :: l, k, h => by
    rw [List.map_cons, List.nodup_cons] at h
    obtain ⟨h1, h2⟩ := keys_mdel l k h.2
    unfold mdel
    by_cases e : p.1 = k
    · rw [if_pos e]
      refine ⟨h.2, fun c => ?_⟩
      by_cases hc : k = c
      · rw [if_pos hc]
        cases hg : mget l c with
        | none => rfl
        | some v => exact absurd (List.mem_map.2 ⟨(c, v), mget_mem hg, by rw [e, hc]⟩) h.1
      · rw [if_neg hc, mget, if_neg (by rw [e]; exact hc)]
    · rw [if_neg e, List.map_cons, List.nodup_cons]
      refine ⟨⟨fun hm => ?_, h1⟩, fun c => ?_⟩
      · obtain ⟨q, hq, he⟩ := List.mem_map.1 hm
        have h3 := h2 p.1
        rw [if_neg (fun x => e x.symm)] at h3
        have h4 := mget_at h1 hq
        rw [he, h3] at h4
        exact h.1 (List.mem_map.2 ⟨(p.1, q.2), mget_mem h4, rfl⟩)
      · rw [mget, mget, h2]
        by_cases hc : k = c
        · rw [if_pos hc, if_pos hc, if_neg (by rw [← hc]; exact e)]
        · rw [if_neg hc, if_neg hc]
def fdel (f : κ → Option Value) (k : κ) : κ → Option Value := fun c => if k = c then none else f c
variable {P : Program} {kt et t : TypeId} {kv : κ → Value} {w w' : World} {b : Nat} {f : κ → Option Value}
theorem MapF.entry (h : MapF w kv b f) (K : KeyLaw P kt kv) (ht : P.underlying t = some (.map kt et)) {z : Value} (hz : (zeroValue et).run P w = .ok z w) (k : κ) :
    ∃ w1 st, (Instr.mapEntry t (.map (some b)) (kv k)).run P w = .ok (.tuple #[(f k).getD z, .int .i64 ((st : Nat) : Int)]) w1 ∧ MapF w1 kv b (fput f k ((f k).getD z)) ∧ w.grownBy w1 (some b) ∧ w1.heap.size = w.heap.size ∧
      ∀ W, W.heap[b]? = w1.heap[b]? → ∀ v, ∃ w2, (Instr.entryStore t (.map (some b)) (.int .i64 ((st : Nat) : Int)) v).run P W = .ok () w2 ∧ MapF w2 kv b (fput f k v) ∧ W.grownBy w2 (some b) ∧ w2.heap.size = W.heap.size := by
  obtain ⟨es, clock, l, h1, h2, h3, h4, h5⟩ := h
  obtain ⟨w1, st, r1, r2, r3, r4, r5⟩ := MapIs.entry (⟨es, clock, h1, h3, h2⟩ : MapIs w kv b l) K ht hz k
  rw [h5] at r1 r2
  have mk : ∀ {W : World} {v : Value}, MapIs W kv b (mput l k v) → MapF W kv b (fput f k v) := fun {W v} hm => by
    obtain ⟨es, clock, q1, q2, q3⟩ := hm
    exact ⟨es, clock, _, q1, q3, q2, keys_mput l k v h4, fun c => by rw [mget_mput, h5]; rfl⟩
  refine ⟨w1, st, r1, mk r2, r3, r4, fun W hW v => ?_⟩
  obtain ⟨w2, s1, s2, s3, s4⟩ := r5 W hW v
  exact ⟨w2, s1, mk s2, s3, s4⟩
theorem MapF.delete (h : MapF w kv b f) (K : KeyLaw P kt kv) (ht : P.underlying t = some (.map kt et)) (k : κ) (tk ty : TypeId) :
    ∃ w', (Builtin.delete_ #[t, tk] ty #[.map (some b), kv k]).run P w = .ok (.tuple #[]) w' ∧ MapF w' kv b (fdel f k) ∧ w.grownBy w' (some b) ∧ w'.heap.size = w.heap.size := by
  obtain ⟨es, clock, l, h1, h2, h3, h4, h5⟩ := h
  obtain ⟨w', r1, ⟨es', clock', q1, q2, q3⟩, r3, r4⟩ := MapIs.delete (⟨es, clock, h1, h3, h2⟩ : MapIs w kv b l) K ht k tk ty
  obtain ⟨d1, d2⟩ := keys_mdel l k h4
  exact ⟨w', r1, ⟨es', clock', _, q1, q3, q2, d1, fun c => by rw [d2, h5]; rfl⟩, r3, r4⟩
theorem MapF.len (h : MapF w kv b f) (ht : P.underlying t = some (.map kt et)) (ty : TypeId) : ∃ l : List (κ × Value), (l.map (·.1)).Nodup ∧ (∀ k, mget l k = f k) ∧ (Builtin.len_ #[t] ty #[.map (some b)]).run P w = .ok (.int .i64 l.length) w := by
  obtain ⟨es, clock, l, h1, h2, h3, h4, h5⟩ := h
  exact ⟨l, h4, h5, MapIs.len (⟨es, clock, h1, h3, h2⟩ : MapIs w kv b l) ht ty⟩
theorem MapF.keys (h : MapF w kv b f) : ∃ K : List κ, K.Nodup ∧ ∀ x, x ∈ K ↔ (f x).isSome = true := by
  obtain ⟨es, clock, l, h1, h2, h3, h4, h5⟩ := h
  refine ⟨l.map (·.1), h4, fun x => ?_⟩
  rw [← h5]
  constructor
  · intro hx
    obtain ⟨p, hp, rfl⟩ := List.mem_map.1 hx
    rw [mget_at h4 hp]; rfl
  · intro hx
    obtain ⟨v, hv⟩ := Option.isSome_iff_exists.1 hx
    exact List.mem_map.2 ⟨(x, v), mget_mem hv, rfl⟩
end
section
variable {κ : Type} [DecidableEq κ] {P : Program} {kt et t : TypeId} {kv : κ → Value} {b r : Nat} {f : κ → Option Value} {F : Fence} {n : Nat}
variable {ops : Array Oper} {rest : List Oper} {o : Oper} {a : Act} {Q : Exit → Act → World → Prop}
theorem wpListIn_frange (w : World) (hg : o.guard = none) (m : Operand) (t : TypeId) (hop : o.op = Op.range t m) (ht : P.underlying t = some (.map kt et)) (hm : a.eval m = .map (some b)) (h : MapF w kv b f)
    (hK : ∀ w', (∃ cnt, Rng w' kv b w.heap.size f (fun k => (f k).isSome) cnt) → w.grownBy w' none → w'.heap.size = w.heap.size + 1 → wpListIn F n P ops Q rest (a.put o.dst (.pointer (some ⟨w.heap.size, 0, none⟩))) w') : wpListIn F n P ops Q (o :: rest) a w := by
  refine wpListIn_plain hg fun K' hK' => ?_
  obtain ⟨w', hrun, h1, h2, h3⟩ := h.range (P := P) ht
  unfold Oper.wpIn
  refine ⟨?_, ?_⟩
  · simp [Oper.about, hop]
  · rw [Oper.semAt_plain F _ _ (by rw [hop]; intro c hc'; cases hc')]
    simp [execOp, hop, hm, hrun, Result.andThen]
    exact hK' _ _ (hK w' h1 h2 h3)
theorem wpListIn_fnext (w : World) (hg : o.guard = none) (it : Operand) (hop : o.op = Op.next it false) {left : κ → Bool} {cnt : Nat} (h : Rng w kv b r f left cnt) (hm : a.eval it = .pointer (some ⟨r, 0, none⟩))
    (h0 : (∀ k, left k = false) → wpListIn F n P ops Q rest (a.put o.dst (.tuple #[.bool false])) w)
    (h1 : ∀ k v w' cnt', left k = true → f k = some v → Rng w' kv b r f (fun x => left x && !decide (x = k)) cnt' → cnt' < cnt → w.grownBy w' (some r) → w'.heap.size = w.heap.size → (Instr.entry (.pointer (some ⟨r, 0, none⟩))).run P w' = .ok (.tuple #[kv k, v]) w' → wpListIn F n P ops Q rest (a.put o.dst (.tuple #[.bool true, kv k, v])) w') : wpListIn F n P ops Q (o :: rest) a w := by
  refine wpListIn_plain hg fun K' hK' => ?_
  unfold Oper.wpIn
  refine ⟨by simp [Oper.about, hop], ?_⟩
  rw [Oper.semAt_plain F _ _ (by rw [hop]; intro c hc'; cases hc')]
  rcases h.next (P := P) o.type with ⟨h2, hrun⟩ | ⟨k, v, w', cnt', c1, c2, hrun, c3, c4, c5, c6, c7⟩
  · simp [execOp, hop, hm, hrun, Result.andThen]
    exact hK' _ _ (h0 h2)
  · simp [execOp, hop, hm, hrun, Result.andThen]
    exact hK' _ _ (h1 k v w' cnt' c1 c2 c3 c4 c5 c6 c7)
end
end Go.Proofs.Ytikefafpkclgeaa.Maps
