/- A map that a call has made, as a function of its keys; and a range over it, in whatever order. Over XMaps. -/
import Derived.Test.YtikefafpkclgeaaMaps
import Derived.Maps.RangeRun
import Derived.Laws.StructEq
set_option linter.unusedVariables false
set_option linter.unusedSimpArgs false
set_option linter.unusedSectionVars false
namespace Go.Proofs.Ytikefafpkclgeaa.Maps
open Go.MapKept Go.ChangeMaps

theorem nodup_at {α β : Type} (g : α → β) : ∀ (l : List α), (l.map g).Nodup → ∀ (i j : Nat) (x y : α), l[i]? = some x → l[j]? = some y → g x = g y → i = j
  | [], _, _, _, _, _, h, _, _ => by simp at h
  | a :: l, hn, i, j, x, y, hi, hj, e => by
    rw [List.map_cons, List.nodup_cons] at hn
    cases i with
    | zero =>
      cases j with
      | zero => rfl
      | succ j =>
        simp only [List.getElem?_cons_zero, Option.some.injEq, List.getElem?_cons_succ] at hi hj
        subst hi
        exact absurd (List.mem_map.2 ⟨y, List.mem_of_getElem? hj, e.symm⟩) hn.1
    | succ i =>
      cases j with
      | zero =>
        simp only [List.getElem?_cons_zero, Option.some.injEq, List.getElem?_cons_succ] at hi hj
        subst hj
        exact absurd (List.mem_map.2 ⟨x, List.mem_of_getElem? hi, e⟩) hn.1
      | succ j =>
        simp only [List.getElem?_cons_succ] at hi hj
        rw [nodup_at g l hn.2 i j x y hi hj e]
section keys
variable {κ : Type} [DecidableEq κ] {P : Program} {kt et t : TypeId} {kv : κ → Value} {w w' : World} {b r : Nat} {f : κ → Option Value}
theorem findAsking_run (heq : ∀ (w : World) (x y : κ), (Op.equal kt (kv x) (kv y)).run P w = .ok (decide (x = y)) w) (w : World) (k : κ) : ∀ (es : List MapEntry) (l : List (κ × Value)) (i : Nat), es.map (fun e => (e.key, e.val)) = l.map (fun p => (kv p.1, p.2)) → (Instr.findAsking kt (kv k) es i).run P w = .ok (at_ l k i) w
  | [], [], _, _ => by simp [Instr.findAsking, at_]
  | [], _ :: _, _, h => by simp at h
  | _ :: _, [], _, h => by simp at h
  | e :: es, p :: l, i, h => by
    simp only [List.map_cons, List.cons.injEq, Prod.mk.injEq] at h
    obtain ⟨⟨h1, h2⟩, h3⟩ := h
    unfold Instr.findAsking at_
    rw [Sem.run_bind, h1, heq w k p.1]
    by_cases c : p.1 = k
    · rw [if_pos c, decide_eq_true c.symm]
      simp [Result.andThen, h2]
    · rw [if_neg c, decide_eq_false (fun e => c e.symm)]
      simpa [Result.andThen] using findAsking_run heq w k es l (i + 1) h3
/-- A key that is a struct of one whole number. -/
theorem KeyLaw.place {fd : Field} {q : IntKind} {ft : TypeId} (hu : P.underlying kt = some (.struct #[fd])) (hn : fd.name = "block") (ht : fd.type = ft) (ho : fd.offset = 0) (hf : P.underlying ft = some (.int q)) (hsz : (P.info? ft).map (·.size) = some 1)
    (heq : ∀ (w : World) (x y : Int), (Op.equal kt (.agg #[.int q x]) (.agg #[.int q y])).run P w = .ok (decide (x = y)) w)
    (hck : ∀ (e : Bool) (w : World) (k : Int), (Instr.checkKey e 10000 kt (.agg #[.int q k])).run P w = .ok () w) : KeyLaw P kt (fun x : Int => Value.agg #[.int q x]) where
  check := hck
  find := fun w k es l h => by
    unfold Instr.findKey
    simp only [Sem.run_bind, run_underlying hu, Result.andThen]
    cases es with
    | nil =>
      cases l with
      | nil => simp [Instr.findNow, at_]
      | cons p l => simp at h
    | cons e es =>
      have := findAsking_run (kv := fun x : Int => Value.agg #[.int q x]) heq w k (e :: es) l 0 h
      simp only [Instr.findNow, Instr.sameNow]
      exact this
  stays := fun w k => by simp [Instr.keyThatStays, Instr.sameBits]
/-- Block b is a map that has f's values. -/
def MapF (w : World) (kv : κ → Value) (b : Nat) (f : κ → Option Value) : Prop :=
  ∃ es clock l, w.heap[b]? = some (.map es clock) ∧ Born es clock ∧ es.toList.map (fun e => (e.key, e.val)) = l.map (fun p : κ × Value => (kv p.1, p.2)) ∧ (l.map (·.1)).Nodup ∧ ∀ k, mget l k = f k
theorem MapF.of_block (h : MapF w kv b f) (hb : w'.heap[b]? = w.heap[b]?) : MapF w' kv b f := by
  obtain ⟨es, clock, l, h1, h2⟩ := h
  exact ⟨es, clock, l, hb.trans h1, h2⟩
theorem MapF.lt (h : MapF w kv b f) : b < w.heap.size := by
  obtain ⟨es, clock, l, h1, h2⟩ := h
  exact (Array.getElem?_eq_some_iff.1 h1).1
theorem MapF.made (w : World) : MapF (w.alloc (.map #[] 0)) kv w.heap.size (fun _ => none) := ⟨#[], 0, [], (heap_alloc w _).1, ⟨by simp, by simp⟩, rfl, List.nodup_nil, fun _ => rfl⟩
theorem MapF.is (h : MapF w kv b f) : ∃ l, MapIs w kv b l ∧ ∀ k, mget l k = f k := by
  obtain ⟨es, clock, l, h1, h2, h3, h4, h5⟩ := h
  exact ⟨l, ⟨es, clock, h1, h3, h2⟩, h5⟩
theorem MapF.lookup (h : MapF w kv b f) (K : KeyLaw P kt kv) (ht : P.underlying t = some (.map kt et)) {z : Value} (hz : (zeroValue et).run P w = .ok z w) (k : κ) :
    (Instr.lookup t (.map (some b)) (kv k) false).run P w = .ok ((f k).getD z) w := by
  obtain ⟨l, h1, h2⟩ := h.is
  have := h1.lookup K ht hz k
  rwa [h2] at this
theorem MapF.lookup_ok (h : MapF w kv b f) (K : KeyLaw P kt kv) (ht : P.underlying t = some (.map kt et)) {z : Value} (hz : (zeroValue et).run P w = .ok z w) (k : κ) :
    (Instr.lookup t (.map (some b)) (kv k) true).run P w = .ok (.tuple #[(f k).getD z, .bool (f k).isSome]) w := by
  obtain ⟨l, h1, h2⟩ := h.is
  have := h1.lookup_ok K ht hz k
  rwa [h2] at this
theorem keys_mput : ∀ (l : List (κ × Value)) (k : κ) (v : Value), (l.map (·.1)).Nodup → ((mput l k v).map (·.1)).Nodup
  | [], k, v, _ => by simp [mput]
  | p :: l, k, v, h => by
    rw [List.map_cons, List.nodup_cons] at h
    unfold mput
    by_cases c : p.1 = k
    · rw [if_pos c, List.map_cons, List.nodup_cons]
      exact ⟨c ▸ h.1, h.2⟩
    · rw [if_neg c, List.map_cons, List.nodup_cons]
      refine ⟨fun hm => ?_, keys_mput l k v h.2⟩
      obtain ⟨q, hq, he⟩ := List.mem_map.1 hm
      rcases mem_mput hq with rfl | hq
      · exact c he.symm
      · exact h.1 (List.mem_map.2 ⟨q, hq, he⟩)
def fput (f : κ → Option Value) (k : κ) (v : Value) : κ → Option Value := fun c => if k = c then some v else f c
theorem MapF.update (h : MapF w kv b f) (K : KeyLaw P kt kv) (ht : P.underlying t = some (.map kt et)) (k : κ) (v : Value) :
    ∃ w', (Instr.mapUpdate t (.map (some b)) (kv k) v).run P w = .ok () w' ∧ MapF w' kv b (fput f k v) ∧ w.grownBy w' (some b) ∧ w'.heap.size = w.heap.size := by
  obtain ⟨es, clock, l, hb, hbn, he, hnd, hfl⟩ := h
  have hf := K.find w k es.toList l he
  have hnew : ∀ c, mget (mput l k v) c = fput f k v c := fun c => by rw [mget_mput, hfl]; rfl
  cases ha : at_ l k 0 with
  | none =>
    rw [ha] at hf
    refine ⟨{ w with heap := w.heap.setIfInBounds b (.map (es.push { key := kv k, val := v, born := clock }) (clock + 1)) }, ?_, ⟨_, _, mput l k v, (MapKept.heap_set hb).1, ⟨?_, ?_⟩, ?_, keys_mput l k v hnd, hnew⟩, ⟨rfl, rfl, rfl, by simp, fun i _ hi => (MapKept.heap_set hb).2 i (fun e => hi (by rw [e]))⟩, by simp⟩
    · simp [Instr.mapUpdate, run_underlying ht, MapKept.run_getObj_map hb, K.check, hf, MapKept.run_setObj_map _ hb, Result.andThen]
    · intro x hx
      simp only [Array.toList_push, List.mem_append, List.mem_singleton] at hx
      rcases hx with hx | rfl
      · exact Nat.lt_succ_of_lt (hbn.1 x hx)
      · exact Nat.lt_succ_self _
    · simp only [Array.toList_push, List.map_append, List.map_cons, List.map_nil]
      refine List.nodup_append.2 ⟨hbn.2, by simp, ?_⟩
      intro a ha b hb
      simp only [List.mem_singleton] at hb
      subst hb
      obtain ⟨x, hx, rfl⟩ := List.mem_map.1 ha
      exact Nat.ne_of_lt (hbn.1 x hx)
    · rw [(at_none ha).2 v]
      simp [he]
  | some q =>
    obtain ⟨j, v0⟩ := q
    rw [ha] at hf
    obtain ⟨m, rfl, hm, hl, hp, _⟩ := at_some ha
    rw [Nat.zero_add] at hf
    have hes : ∃ e, es[m]? = some e ∧ e.key = kv k := by
      have h1 := congrArg (fun x => x[m]?) he
      simp only [List.getElem?_map, hm, Option.map_some, Array.getElem?_toList] at h1
      obtain ⟨e, h2, h3⟩ := Option.map_eq_some_iff.1 h1
      exact ⟨e, h2, by simpa using congrArg Prod.fst h3⟩
    obtain ⟨e, he1, he2⟩ := hes
    have hborn : (es.modify m fun e => { e with key := kv k, val := v }).toList.map (·.born) = es.toList.map (·.born) := by
      apply List.ext_getElem?
      intro j
      simp only [List.getElem?_map, Array.getElem?_toList, Array.getElem?_modify]
      by_cases hij : m = j
      · subst hij
        cases es[m]? <;> simp
      · simp [hij]
    refine ⟨{ w with heap := w.heap.setIfInBounds b (.map (es.modify m fun e => { e with key := kv k, val := v }) clock) }, ?_, ⟨_, _, mput l k v, (MapKept.heap_set hb).1, ⟨?_, hborn ▸ hbn.2⟩, ?_, keys_mput l k v hnd, hnew⟩, ⟨rfl, rfl, rfl, by simp, fun i _ hi => (MapKept.heap_set hb).2 i (fun e => hi (by rw [e]))⟩, by simp⟩
    · simp [Instr.mapUpdate, run_underlying ht, MapKept.run_getObj_map hb, K.check, hf, he1, he2, K.stays, MapKept.run_setObj_map _ hb, Result.andThen]
    · intro x hx
      have : x.born ∈ es.toList.map (·.born) := hborn ▸ List.mem_map.2 ⟨x, hx, rfl⟩
      obtain ⟨y, hy, e⟩ := List.mem_map.1 this
      rw [← e]
      exact hbn.1 y hy
    · rw [hp v, set_modify es m _ (kv k, v) (fun _ _ => rfl), he, List.map_set]

/-- A range over the map b under way: r is its iterator; left: which keys are still to come. -/
def Rng (w : World) (kv : κ → Value) (b r : Nat) (f : κ → Option Value) (left : κ → Bool) (cnt : Nat) : Prop :=
  ∃ es clock l since seen c0, w.heap[b]? = some (.map es clock) ∧ Born es clock ∧ es.toList.map (fun e => (e.key, e.val)) = l.map (fun p : κ × Value => (kv p.1, p.2)) ∧ (l.map (·.1)).Nodup ∧ (∀ k, mget l k = f k) ∧
    w.heap[r]? = some (.mapIter (some b) since seen c0) ∧ (∀ x ∈ es.toList, x.born < since) ∧ (leftOf es seen).size = cnt ∧
    (∀ (i : Nat) (e : MapEntry) (p : κ × Value), es.toList[i]? = some e → l[i]? = some p → left p.1 = !seen.contains e.born) ∧ (∀ k, left k = true → (f k).isSome = true) ∧ since ≤ c0 ∧ since ≤ clock
def rngLeft (w : World) (b r : Nat) : Nat :=
  match w.heap[b]?, w.heap[r]? with
  | some (.map es _), some (.mapIter _ _ seen _) => (leftOf es seen).size
  | _, _ => 0
variable {left : κ → Bool} {cnt : Nat}
theorem Rng.map (h : Rng w kv b r f left cnt) : MapF w kv b f := by
  obtain ⟨es, clock, l, since, seen, c0, h1, h2, h3, h4, h5, _⟩ := h
  exact ⟨es, clock, l, h1, h2, h3, h4, h5⟩
theorem Rng.left_eq (h : Rng w kv b r f left cnt) : rngLeft w b r = cnt := by
  obtain ⟨es, clock, l, since, seen, c0, hb, _, _, _, _, hr, _, hc, _⟩ := h
  simp only [rngLeft, hb, hr]
  exact hc
theorem Rng.of_blocks (h : Rng w kv b r f left cnt) (hb : w'.heap[b]? = w.heap[b]?) (hr : w'.heap[r]? = w.heap[r]?) : Rng w' kv b r f left cnt := by
  obtain ⟨es, clock, l, since, seen, c0, h1, h2, h3, h4, h5, h6, h7⟩ := h
  exact ⟨es, clock, l, since, seen, c0, hb.trans h1, h2, h3, h4, h5, hr.trans h6, h7⟩
theorem Rng.lt (h : Rng w kv b r f left cnt) : r < w.heap.size := by
  obtain ⟨es, clock, l, since, seen, c0, _, _, _, _, _, hr, _⟩ := h
  exact (Array.getElem?_eq_some_iff.1 hr).1
theorem Rng.ne (h : Rng w kv b r f left cnt) : r ≠ b := by
  obtain ⟨es, clock, l, since, seen, c0, hb, _, _, _, _, hr, _⟩ := h
  intro e
  rw [e, hb] at hr
  cases hr
theorem same_at {es : Array MapEntry} {l : List (κ × Value)} (he : es.toList.map (fun e => (e.key, e.val)) = l.map (fun p : κ × Value => (kv p.1, p.2))) {i : Nat} {e : MapEntry} (hi : es.toList[i]? = some e) : ∃ p, l[i]? = some p ∧ e.key = kv p.1 ∧ e.val = p.2 := by
  have h1 := congrArg (fun x => x[i]?) he
  simp only [List.getElem?_map, hi, Option.map_some] at h1
  obtain ⟨p, h2, h3⟩ := Option.map_eq_some_iff.1 h1.symm
  simp only [Prod.mk.injEq] at h3
  exact ⟨p, h2, h3.1.symm, h3.2.symm⟩
theorem same_at' {es : Array MapEntry} {l : List (κ × Value)} (he : es.toList.map (fun e => (e.key, e.val)) = l.map (fun p : κ × Value => (kv p.1, p.2))) {i : Nat} {p : κ × Value} (hi : l[i]? = some p) : ∃ e, es.toList[i]? = some e := by
  have h1 := congrArg (fun x => x[i]?) he
  simp only [List.getElem?_map, hi, Option.map_some] at h1
  obtain ⟨e, h2, h3⟩ := Option.map_eq_some_iff.1 h1
  exact ⟨e, h2⟩
theorem mget_at {l : List (κ × Value)} (hn : (l.map (·.1)).Nodup) {p : κ × Value} (hp : p ∈ l) : mget l p.1 = some p.2 := by
  induction l with
  | nil => simp at hp
  | cons q l ih =>
    rw [List.map_cons, List.nodup_cons] at hn
    unfold mget
    rcases List.mem_cons.1 hp with rfl | hp
    · rw [if_pos rfl]
    · rw [if_neg (fun e : q.1 = p.1 => hn.1 (e.symm ▸ List.mem_map.2 ⟨p, hp, rfl⟩))]
      exact ih hn.2 hp
theorem MapF.range (h : MapF w kv b f) (ht : P.underlying t = some (.map kt et)) :
    ∃ w', (Instr.range t (.map (some b))).run P w = .ok (.pointer (some ⟨w.heap.size, 0, none⟩)) w' ∧ (∃ cnt, Rng w' kv b w.heap.size f (fun k => (f k).isSome) cnt) ∧ w.grownBy w' none ∧ w'.heap.size = w.heap.size + 1 := by
  have hlt := h.lt
  obtain ⟨es, clock, l, hb, hbn, he, hnd, hfl⟩ := h
  refine ⟨_, run_range_map w t kt et b es clock ht hb, ⟨_, es, clock, l, clock, #[], clock, ((heap_alloc w _).2 b hlt).trans hb, hbn, he, hnd, hfl, (heap_alloc w _).1, hbn.1, rfl, fun i e p h1 h2 => ?_, fun k hk => hk, Nat.le_refl _, Nat.le_refl _⟩, World.grownBy_alloc w _ none, by simp⟩
  have := mget_at hnd (List.mem_of_getElem? h2)
  show (f p.1).isSome = _
  rw [← hfl, this]
  simp
theorem Rng.next (h : Rng w kv b r f left cnt) (ty : TypeId) :
    ((∀ k, left k = false) ∧ (Instr.next (.pointer (some ⟨r, 0, none⟩)) false ty).run P w = .ok (.tuple #[.bool false]) w) ∨
    ∃ k v w' cnt', left k = true ∧ f k = some v ∧ (Instr.next (.pointer (some ⟨r, 0, none⟩)) false ty).run P w = .ok (.tuple #[.bool true, kv k, v]) w' ∧
      Rng w' kv b r f (fun x => left x && !decide (x = k)) cnt' ∧ cnt' < cnt ∧ w.grownBy w' (some r) ∧ w'.heap.size = w.heap.size ∧ (Instr.entry (.pointer (some ⟨r, 0, none⟩))).run P w' = .ok (.tuple #[kv k, v]) w' := by
  have hne := h.ne
  obtain ⟨es, clock, l, since, seen, c0, hb, hbn, he, hnd, hfl, hr, hold, rfl, hl1, hl2, hsc, hsk⟩ := h
  rcases run_next_at (P := P) w ty r b since c0 seen es clock hr hb hold hsc with ⟨h0, hrun⟩ | ⟨e, hem, w1, hal, hrun⟩
  · refine Or.inl ⟨fun k => ?_, hrun⟩
    cases hk : left k
    · rfl
    · have h3 := hl2 k hk
      rw [← hfl] at h3
      obtain ⟨v, hv⟩ := Option.isSome_iff_exists.1 h3
      obtain ⟨i, hi⟩ := List.getElem?_of_mem (mget_mem hv)
      obtain ⟨e, hei⟩ := same_at' he hi
      have := hl1 i e (k, v) hei hi
      rw [show (k, v).1 = k from rfl, hk, all_seen es seen h0 e (List.mem_of_getElem? hei)] at this
      cases this
  · obtain ⟨hme, hse⟩ := mem_left hem
    obtain ⟨i, hi⟩ := List.getElem?_of_mem hme
    obtain ⟨p, hp, hk, hv⟩ := same_at he hi
    have hr1 : w1.heap[r]? = some (.mapIter (some b) since seen c0) := by rcases hal with rfl | rfl <;> exact hr
    have hb1 : w1.heap[b]? = some (.map es clock) := by rcases hal with rfl | rfl <;> exact hb
    have hset := heap_set (o' := .mapIter (some b) since (seen.push e.born) clock) hr1
    have hb' : (setBlock w1 r (.mapIter (some b) since (seen.push e.born) clock)).heap[b]? = some (.map es clock) := (hset.2 b (fun e1 => hne e1.symm)).trans hb1
    have hfp : f p.1 = some p.2 := by rw [← hfl]; exact mget_at hnd (List.mem_of_getElem? hp)
    rw [hk, hv] at hrun
    have hent := run_entry_at (P := P) _ r b since seen es clock e hset.1 hb' hme hbn.2
    rw [hk, hv] at hent
    refine Or.inr ⟨p.1, p.2, _, _, by rw [hl1 i e p hi hp, hse]; rfl, hfp, hrun, ⟨es, clock, l, since, seen.push e.born, clock, hb', hbn, he, hnd, hfl, hset.1, hold, rfl, fun j x q hx hq => ?_, fun k hk => hl2 k (by simp at hk; exact hk.1), hsk, hsk⟩, left_shrinks es seen e hem, ?_, ?_, hent⟩
    · show (left q.1 && !decide (q.1 = p.1)) = _
      rw [hl1 j x q hx hq, contains_push]
      have hj : (q.1 = p.1) ↔ (x.born = e.born) := by
        constructor
        · intro e1
          have : j = i := nodup_at (·.1) l hnd j i q p hq hp e1
          subst this
          rw [hi] at hx
          rw [Option.some.inj hx]
        · intro e1
          have : j = i := nodup_at (·.born) es.toList hbn.2 j i x e hx hi e1
          subst this
          rw [hp] at hq
          rw [Option.some.inj hq]
      by_cases hc : q.1 = p.1
      · rw [decide_eq_true hc, show (x.born == e.born) = true from by simp [hj.1 hc]]
        cases seen.contains x.born <;> rfl
      · rw [decide_eq_false hc, show (x.born == e.born) = false from beq_eq_false_iff_ne.2 (fun e1 => hc (hj.2 e1))]
        cases seen.contains x.born <;> rfl
    · rcases hal with rfl | rfl <;> exact ⟨rfl, rfl, rfl, by simp [setBlock], fun i _ hi => hset.2 i (fun e1 => hi (by rw [e1]))⟩
    · rcases hal with rfl | rfl <;> simp [setBlock]
end keys

section walk
variable {κ : Type} [DecidableEq κ] {P : Program} {kt et t : TypeId} {kv : κ → Value} {b r : Nat} {f : κ → Option Value}
variable {ops : Array Oper} {rest : List Oper} {o : Oper} {a : Act} {Q : Exit → Act → World → Prop}
theorem wpList_flookup_ok (w : World) (hg : o.guard = none) (m x : Operand) (t : TypeId) (hop : o.op = Op.lookup t m x true) (K : KeyLaw P kt kv) (ht : P.underlying t = some (.map kt et)) {z : Value} (hz : (zeroValue et).run P w = .ok z w)
    (hm : a.eval m = .map (some b)) (h : MapF w kv b f) (k : κ) (hx : a.eval x = kv k) (hK : wpList P ops Q rest (a.put o.dst (.tuple #[(f k).getD z, .bool (f k).isSome])) w) : wpList P ops Q (o :: rest) a w := by
  refine wpList_plain hg fun K' hK' => ?_
  have hrun := h.lookup_ok K ht hz k
  unfold Oper.wp
  simp [execOp, hop, hm, hx, hrun, Result.andThen]
  exact hK' _ _ hK
theorem wpList_fupdate (w : World) (hg : o.guard = none) (m x v : Operand) (t : TypeId) (hop : o.op = Op.mapUpdate t m x v) (K : KeyLaw P kt kv) (ht : P.underlying t = some (.map kt et))
    (hm : a.eval m = .map (some b)) (h : MapF w kv b f) (k : κ) (hx : a.eval x = kv k) (val : Value) (hv : a.eval v = val)
    (hK : ∀ w', MapF w' kv b (fput f k val) → w.grownBy w' (some b) → w'.heap.size = w.heap.size → wpList P ops Q rest (a.put o.dst undef) w') : wpList P ops Q (o :: rest) a w := by
  refine wpList_plain hg fun K' hK' => ?_
  obtain ⟨w', hrun, h1, h2, h3⟩ := h.update K ht k val
  unfold Oper.wp
  simp [execOp, hop, hm, hx, hv, hrun, Result.andThen]
  exact hK' _ _ (hK w' h1 h2 h3)
theorem wpList_frange (w : World) (hg : o.guard = none) (m : Operand) (t : TypeId) (hop : o.op = Op.range t m) (ht : P.underlying t = some (.map kt et)) (hm : a.eval m = .map (some b)) (h : MapF w kv b f)
    (hK : ∀ w', (∃ cnt, Rng w' kv b w.heap.size f (fun k => (f k).isSome) cnt) → w.grownBy w' none → w'.heap.size = w.heap.size + 1 → wpList P ops Q rest (a.put o.dst (.pointer (some ⟨w.heap.size, 0, none⟩))) w') : wpList P ops Q (o :: rest) a w := by
  refine wpList_plain hg fun K' hK' => ?_
  obtain ⟨w', hrun, h1, h2, h3⟩ := h.range (P := P) ht
  unfold Oper.wp
  simp [execOp, hop, hm, hrun, Result.andThen]
  exact hK' _ _ (hK w' h1 h2 h3)
theorem wpList_fnext (w : World) (hg : o.guard = none) (it : Operand) (hop : o.op = Op.next it false) {left : κ → Bool} {cnt : Nat} (h : Rng w kv b r f left cnt) (hm : a.eval it = .pointer (some ⟨r, 0, none⟩))
    (h0 : (∀ k, left k = false) → wpList P ops Q rest (a.put o.dst (.tuple #[.bool false])) w)
    (h1 : ∀ k v w' cnt', left k = true → f k = some v → Rng w' kv b r f (fun x => left x && !decide (x = k)) cnt' → cnt' < cnt → w.grownBy w' (some r) → w'.heap.size = w.heap.size → (Instr.entry (.pointer (some ⟨r, 0, none⟩))).run P w' = .ok (.tuple #[kv k, v]) w' → wpList P ops Q rest (a.put o.dst (.tuple #[.bool true, kv k, v])) w') : wpList P ops Q (o :: rest) a w := by
  refine wpList_plain hg fun K' hK' => ?_
  rcases h.next (P := P) o.type with ⟨h2, hrun⟩ | ⟨k, v, w', cnt', c1, c2, hrun, c3, c4, c5, c6, c7⟩
  · unfold Oper.wp
    simp [execOp, hop, hm, hrun, Result.andThen]
    exact hK' _ _ (h0 h2)
  · unfold Oper.wp
    simp [execOp, hop, hm, hrun, Result.andThen]
    exact hK' _ _ (h1 k v w' cnt' c1 c2 c3 c4 c5 c6 c7)
end walk
end Go.Proofs.Ytikefafpkclgeaa.Maps
