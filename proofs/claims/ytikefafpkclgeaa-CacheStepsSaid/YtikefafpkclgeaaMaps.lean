/- A map that a call has made, as a list of keys and values: mget-up, store, delete, length; for whatever kind of key has the law KeyLaw. -/
import Derived.Maps.OwnOps
import Derived.MapKept
import Derived.Below
set_option linter.unusedVariables false
set_option linter.unusedSimpArgs false
namespace Go.Proofs.Ytikefafpkclgeaa.Maps
open Go.MapKept

section lists
variable {κ ν μ : Type} [DecidableEq κ]
def mget : List (κ × ν) → κ → Option ν
  | [], _ => none
  | p :: l, k => if p.1 = k then some p.2 else mget l k
def mput : List (κ × ν) → κ → ν → List (κ × ν)
  | [], k, v => [(k, v)]
  | p :: l, k, v => if p.1 = k then (k, v) :: l else p :: mput l k v
def mdel : List (κ × ν) → κ → List (κ × ν)
  | [], _ => []
  | p :: l, k => if p.1 = k then l else p :: mdel l k
def at_ : List (κ × ν) → κ → Nat → Option (Nat × ν)
  | [], _, _ => none
  | p :: l, k, i => if p.1 = k then some (i, p.2) else at_ l k (i + 1)
theorem at_none : ∀ {l : List (κ × ν)} {k : κ} {i : Nat}, at_ l k i = none → mget l k = none ∧ ∀ v, mput l k v = l ++ [(k, v)]
  | [], _, _, _ => ⟨rfl, fun _ => rfl⟩
  | p :: l, k, i, h => by
    unfold at_ at h
    by_cases c : p.1 = k
    · rw [if_pos c] at h; simp at h
    · rw [if_neg c] at h
      have ih := at_none h
      refine ⟨by unfold mget; rw [if_neg c]; exact ih.1, fun v => ?_⟩
      unfold mput
      rw [if_neg c, ih.2 v]
      rfl
theorem at_some : ∀ {l : List (κ × ν)} {k : κ} {i j : Nat} {v : ν}, at_ l k i = some (j, v) → ∃ m, j = i + m ∧ l[m]? = some (k, v) ∧ mget l k = some v ∧ (∀ u, mput l k u = l.set m (k, u)) ∧ mdel l k = l.eraseIdx m
  | [], _, _, _, _, h => by simp [at_] at h
  | p :: l, k, i, j, v, h => by
    unfold at_ at h
    by_cases c : p.1 = k
    · rw [if_pos c] at h
      simp only [Option.some.injEq, Prod.mk.injEq] at h
      obtain ⟨rfl, rfl⟩ := h
      subst c
      exact ⟨0, rfl, rfl, by simp [mget], fun u => by simp [mput], by simp [mdel]⟩
    · rw [if_neg c] at h
      obtain ⟨m, rfl, h1, h2, h3, h4⟩ := at_some h
      refine ⟨m + 1, by omega, by simpa using h1, by unfold mget; rw [if_neg c]; exact h2, fun u => ?_, ?_⟩
      · unfold mput; rw [if_neg c, h3 u]; rfl
      · unfold mdel; rw [if_neg c, h4]; rfl
theorem mget_map (f : ν → μ) (l : List (κ × ν)) (k : κ) : mget (l.map fun p => (p.1, f p.2)) k = (mget l k).map f := by
  induction l with
  | nil => rfl
  | cons p l ih => simp only [List.map_cons, mget]; split <;> simp_all
theorem mput_map (f : ν → μ) (l : List (κ × ν)) (k : κ) (v : ν) : mput (l.map fun p => (p.1, f p.2)) k (f v) = (mput l k v).map fun p => (p.1, f p.2) := by
  induction l with
  | nil => rfl
  | cons p l ih => simp only [List.map_cons, mput]; split <;> simp_all
theorem mdel_map (f : ν → μ) (l : List (κ × ν)) (k : κ) : mdel (l.map fun p => (p.1, f p.2)) k = (mdel l k).map fun p => (p.1, f p.2) := by
  induction l with
  | nil => rfl
  | cons p l ih => simp only [List.map_cons, mdel]; split <;> simp_all
theorem mget_mput (l : List (κ × ν)) (k c : κ) (v : ν) : mget (mput l k v) c = if k = c then some v else mget l c := by
  induction l with
  | nil => simp [mput, mget]
  | cons p l ih =>
    simp only [mput]
    by_cases h1 : p.1 = k
    · rw [if_pos h1]
      simp only [mget]
      by_cases h2 : k = c
      · rw [if_pos h2, if_pos h2]
      · rw [if_neg h2, if_neg h2, if_neg (by rw [h1]; exact h2)]
    · rw [if_neg h1]
      simp only [mget, ih]
      by_cases h2 : k = c
      · simp only [if_pos h2]; rw [if_neg (by rw [← h2]; exact h1)]
      · simp only [if_neg h2]
theorem mget_mem {l : List (κ × ν)} {k : κ} {v : ν} (h : mget l k = some v) : (k, v) ∈ l := by
  induction l with
  | nil => simp [mget] at h
  | cons p l ih =>
    simp only [mget] at h
    by_cases c : p.1 = k
    · rw [if_pos c] at h
      obtain rfl := Option.some.inj h
      subst c
      exact .head _
    · rw [if_neg c] at h
      exact .tail _ (ih h)
theorem mem_mput {l : List (κ × ν)} {k : κ} {v : ν} {p : κ × ν} (h : p ∈ mput l k v) : p = (k, v) ∨ p ∈ l := by
  induction l with
  | nil => simpa [mput] using h
  | cons q l ih =>
    simp only [mput] at h
    by_cases c : q.1 = k
    · rw [if_pos c] at h
      rcases List.mem_cons.1 h with h | h
      · exact .inl h
      · exact .inr (.tail _ h)
    · rw [if_neg c] at h
      rcases List.mem_cons.1 h with h | h
      · exact .inr (h ▸ .head _)
      · rcases ih h with h | h
        · exact .inl h
        · exact .inr (.tail _ h)
theorem length_mput (l : List (κ × ν)) (k : κ) (v : ν) : (mput l k v).length = if (mget l k).isSome then l.length else l.length + 1 := by
  induction l with
  | nil => rfl
  | cons p l ih =>
    simp only [mput, mget]
    by_cases c : p.1 = k
    · simp [c]
    · simp only [if_neg c, List.length_cons, ih]
      split <;> rfl
end lists

section keys
variable {κ : Type} [DecidableEq κ]
/-- What is asked of a key's kind. -/
structure KeyLaw (P : Program) (kt : TypeId) (kv : κ → Value) : Prop where
  check : ∀ (e : Bool) (w : World) (k : κ), (Instr.checkKey e 10000 kt (kv k)).run P w = .ok () w
  find : ∀ (w : World) (k : κ) (es : List MapEntry) (l : List (κ × Value)), es.map (fun e => (e.key, e.val)) = l.map (fun p => (kv p.1, p.2)) → (Instr.findKey kt (kv k) es).run P w = .ok (at_ l k 0) w
  stays : ∀ (w : World) (k : κ), (Instr.keyThatStays (kv k) (kv k)).run P w = .ok (kv k) w

theorem find_int {q : IntKind} (k : Int) : ∀ (es : List MapEntry) (l : List (Int × Value)) (i : Nat), es.map (fun e => (e.key, e.val)) = l.map (fun p => (Value.int q p.1, p.2)) → Instr.findNow (.int q) (.int q k) es i = some (at_ l k i)
  | [], [], _, _ => rfl
  | [], _ :: _, _, h => by simp at h
  | _ :: _, [], _, h => by simp at h
  | e :: es, p :: l, i, h => by
    simp only [List.map_cons, List.cons.injEq, Prod.mk.injEq] at h
    obtain ⟨⟨h1, h2⟩, h3⟩ := h
    unfold Instr.findNow at_
    rw [h1]
    have hs : Instr.sameNow (.int q) (.int q k) (.int q p.1) = some (k == p.1) := by simp [Instr.sameNow]
    rw [hs]
    by_cases c : p.1 = k
    · rw [if_pos c, ← c, h2]
      simp
    · rw [if_neg c, show (k == p.1) = false from by simp [Ne.symm c]]
      exact find_int k es l (i + 1) h3
theorem KeyLaw.int {P : Program} {kt : TypeId} {q : IntKind} (hd : P.underlying kt = some (.int q)) : KeyLaw P kt (Value.int q) where
  check := fun e w k => MapKept.run_checkKey hd (by simp [IsKey]) e 9999
  find := fun w k es l h => run_findKey hd (find_int k es l 0 h)
  stays := fun w k => run_keyThatStays (d := .int q) (by simp [IsKey])

/-- Each entry is born once, ahead of the clock. -/
def Born (es : Array MapEntry) (clock : Nat) : Prop := (∀ x ∈ es.toList, x.born < clock) ∧ (es.toList.map (·.born)).Nodup
theorem Born.push {es : Array MapEntry} {clock : Nat} (h : Born es clock) (k v : Value) : Born (es.push { key := k, val := v, born := clock }) (clock + 1) := by
  refine ⟨fun x hx => ?_, ?_⟩
  · simp only [Array.toList_push, List.mem_append, List.mem_singleton] at hx
    rcases hx with hx | rfl
    · exact Nat.lt_succ_of_lt (h.1 x hx)
    · exact Nat.lt_succ_self _
  · simp only [Array.toList_push, List.map_append, List.map_cons, List.map_nil]
    refine List.nodup_append.2 ⟨h.2, by simp, ?_⟩
    intro a ha b hb
    simp only [List.mem_singleton] at hb
    subst hb
    obtain ⟨x, hx, rfl⟩ := List.mem_map.1 ha
    exact Nat.ne_of_lt (h.1 x hx)
theorem Born.modify {es : Array MapEntry} {clock : Nat} (h : Born es clock) (m : Nat) (k v : Value) : Born (es.modify m fun e => { e with key := k, val := v }) clock := by
  have hborn : (es.modify m fun e => { e with key := k, val := v }).toList.map (·.born) = es.toList.map (·.born) := by
    apply List.ext_getElem?
    intro j
    simp only [List.getElem?_map, Array.getElem?_toList, Array.getElem?_modify]
    by_cases hij : m = j
    · subst hij
      cases es[m]? <;> simp
    · simp [hij]
  refine ⟨fun x hx => ?_, hborn ▸ h.2⟩
  have : x.born ∈ es.toList.map (·.born) := hborn ▸ List.mem_map.2 ⟨x, hx, rfl⟩
  obtain ⟨y, hy, e⟩ := List.mem_map.1 this
  rw [← e]
  exact h.1 y hy
theorem Born.erase {es : Array MapEntry} {clock : Nat} (h : Born es clock) (m : Nat) : Born (es.eraseIdxIfInBounds m) clock := by
  have hs : (es.eraseIdxIfInBounds m).toList.Sublist es.toList := by
    unfold Array.eraseIdxIfInBounds
    split
    · rw [Array.toList_eraseIdx]
      exact List.eraseIdx_sublist _ _
    · exact List.Sublist.refl _
  exact ⟨fun x hx => h.1 x (hs.subset hx), h.2.sublist (hs.map _)⟩
theorem Born.sub {es es' : Array MapEntry} {clock : Nat} (h : Born es clock) (hs : es'.toList.Sublist es.toList) : Born es' clock := ⟨fun x hx => h.1 x (hs.subset hx), h.2.sublist (hs.map _)⟩
/-- Block b is a map of these keys and values. -/
def MapIs (w : World) (kv : κ → Value) (b : Nat) (l : List (κ × Value)) : Prop :=
  ∃ es clock, w.heap[b]? = some (.map es clock) ∧ es.toList.map (fun e => (e.key, e.val)) = l.map (fun p => (kv p.1, p.2)) ∧ Born es clock
variable {P : Program} {kt et t : TypeId} {kv : κ → Value} {w w' : World} {b : Nat} {l : List (κ × Value)}
omit [DecidableEq κ] in
theorem MapIs.of_block (h : MapIs w kv b l) (hb : w'.heap[b]? = w.heap[b]?) : MapIs w' kv b l := by
  obtain ⟨es, clock, h1, h2⟩ := h
  exact ⟨es, clock, hb.trans h1, h2⟩
omit [DecidableEq κ] in
theorem MapIs.lt (h : MapIs w kv b l) : b < w.heap.size := by
  obtain ⟨es, clock, h1, h2, _⟩ := h
  exact (Array.getElem?_eq_some_iff.1 h1).1
omit [DecidableEq κ] in
theorem MapIs.size (h : MapIs w kv b l) : ∃ es clock, w.heap[b]? = some (.map es clock) ∧ es.size = l.length := by
  obtain ⟨es, clock, h1, h2, _⟩ := h
  refine ⟨es, clock, h1, ?_⟩
  have := congrArg List.length h2
  simpa using this
omit [DecidableEq κ] in
theorem MapIs.made (w : World) : MapIs (w.alloc (.map #[] 0)) kv w.heap.size [] := ⟨#[], 0, (heap_alloc w _).1, rfl, by simp, by simp⟩
theorem MapIs.lookup (h : MapIs w kv b l) (K : KeyLaw P kt kv) (ht : P.underlying t = some (.map kt et)) {z : Value} (hz : (zeroValue et).run P w = .ok z w) (k : κ) :
    (Instr.lookup t (.map (some b)) (kv k) false).run P w = .ok ((mget l k).getD z) w := by
  obtain ⟨es, clock, hb, he, hbn⟩ := h
  have hf := K.find w k es.toList l he
  cases ha : at_ l k 0 with
  | none =>
    rw [ha] at hf
    simp [Instr.lookup, run_underlying ht, MapKept.run_getObj_map hb, K.check, hf, hz, Result.andThen, (at_none ha).1]
  | some r =>
    obtain ⟨j, v⟩ := r
    rw [ha] at hf
    obtain ⟨m, _, _, hl, _⟩ := at_some ha
    simp [Instr.lookup, run_underlying ht, MapKept.run_getObj_map hb, K.check, hf, hz, Result.andThen, hl]
theorem MapIs.lookup_ok (h : MapIs w kv b l) (K : KeyLaw P kt kv) (ht : P.underlying t = some (.map kt et)) {z : Value} (hz : (zeroValue et).run P w = .ok z w) (k : κ) :
    (Instr.lookup t (.map (some b)) (kv k) true).run P w = .ok (.tuple #[(mget l k).getD z, .bool (mget l k).isSome]) w := by
  obtain ⟨es, clock, hb, he, hbn⟩ := h
  have hf := K.find w k es.toList l he
  cases ha : at_ l k 0 with
  | none =>
    rw [ha] at hf
    simp [Instr.lookup, run_underlying ht, MapKept.run_getObj_map hb, K.check, hf, hz, Result.andThen, (at_none ha).1]
  | some r =>
    obtain ⟨j, v⟩ := r
    rw [ha] at hf
    obtain ⟨m, _, _, hl, _⟩ := at_some ha
    simp [Instr.lookup, run_underlying ht, MapKept.run_getObj_map hb, K.check, hf, hz, Result.andThen, hl]
theorem map_erase {γ δ : Type} (f : γ → δ) : ∀ (l : List γ) (m : Nat), (l.eraseIdx m).map f = (l.map f).eraseIdx m
  | [], _ => rfl
  | _ :: _, 0 => rfl
  | x :: l, m + 1 => by simp [map_erase f l m]
theorem set_modify (es : Array MapEntry) (m : Nat) (f : MapEntry → MapEntry) (g : Value × Value) (hf : ∀ e, es[m]? = some e → ((f e).key, (f e).val) = g) :
    (es.modify m f).toList.map (fun e => (e.key, e.val)) = (es.toList.map (fun e => (e.key, e.val))).set m g := by
  apply List.ext_getElem?
  intro i
  rw [List.getElem?_set, List.getElem?_map, List.getElem?_map, Array.getElem?_toList, Array.getElem?_modify]
  by_cases c : m = i
  · subst c
    rw [if_pos rfl, if_pos rfl]
    cases he : es[m]? with
    | none =>
      have : ¬ m < es.size := fun q => by simp [Array.getElem?_eq_none_iff] at he; omega
      simp [this]
    | some e =>
      have hlt : m < es.size := (Array.getElem?_eq_some_iff.1 he).1
      simp [hlt, hf e he]
  · rw [if_neg c, if_neg c]
    simp
theorem MapIs.update (h : MapIs w kv b l) (K : KeyLaw P kt kv) (ht : P.underlying t = some (.map kt et)) (k : κ) (v : Value) :
    ∃ w', (Instr.mapUpdate t (.map (some b)) (kv k) v).run P w = .ok () w' ∧ MapIs w' kv b (mput l k v) ∧ w.grownBy w' (some b) ∧ w'.heap.size = w.heap.size := by
  obtain ⟨es, clock, hb, he, hbn⟩ := h
  have hf := K.find w k es.toList l he
  cases ha : at_ l k 0 with
  | none =>
    rw [ha] at hf
    refine ⟨{ w with heap := w.heap.setIfInBounds b (.map (es.push { key := kv k, val := v, born := clock }) (clock + 1)) }, ?_, ⟨_, _, (MapKept.heap_set hb).1, ?_, hbn.push _ _⟩, ⟨rfl, rfl, rfl, by simp, fun i _ hi => (MapKept.heap_set hb).2 i (fun e => hi (by rw [e]))⟩, by simp⟩
    · simp [Instr.mapUpdate, run_underlying ht, MapKept.run_getObj_map hb, K.check, hf, MapKept.run_setObj_map _ hb, Result.andThen]
    · rw [(at_none ha).2 v]
      simp [he]
  | some r =>
    obtain ⟨j, v0⟩ := r
    rw [ha] at hf
    obtain ⟨m, rfl, hm, hl, hp, _⟩ := at_some ha
    rw [Nat.zero_add] at hf
    have hes : ∃ e, es[m]? = some e ∧ e.key = kv k := by
      have h1 := congrArg (fun x => x[m]?) he
      simp only [List.getElem?_map, hm, Option.map_some, Array.getElem?_toList] at h1
      obtain ⟨e, h2, h3⟩ := Option.map_eq_some_iff.1 h1
      exact ⟨e, h2, by simpa using congrArg Prod.fst h3⟩
    obtain ⟨e, he1, he2⟩ := hes
    refine ⟨{ w with heap := w.heap.setIfInBounds b (.map (es.modify m fun e => { e with key := kv k, val := v }) clock) }, ?_, ⟨_, _, (MapKept.heap_set hb).1, ?_, hbn.modify _ _ _⟩, ⟨rfl, rfl, rfl, by simp, fun i _ hi => (MapKept.heap_set hb).2 i (fun e => hi (by rw [e]))⟩, by simp⟩
    · simp [Instr.mapUpdate, run_underlying ht, MapKept.run_getObj_map hb, K.check, hf, he1, he2, K.stays, MapKept.run_setObj_map _ hb, Result.andThen]
    · rw [hp v, set_modify es m _ (kv k, v) (fun _ _ => rfl), he, List.map_set]
theorem MapIs.delete (h : MapIs w kv b l) (K : KeyLaw P kt kv) (ht : P.underlying t = some (.map kt et)) (k : κ) (tk : TypeId) (ty : TypeId) :
    ∃ w', (Builtin.delete_ #[t, tk] ty #[.map (some b), kv k]).run P w = .ok (.tuple #[]) w' ∧ MapIs w' kv b (mdel l k) ∧ w.grownBy w' (some b) ∧ w'.heap.size = w.heap.size := by
  obtain ⟨es, clock, hb, he, hbn⟩ := h
  have hf := K.find w k es.toList l he
  cases ha : at_ l k 0 with
  | none =>
    rw [ha] at hf
    refine ⟨{ w with heap := w.heap.setIfInBounds b (.map es clock) }, ?_, ⟨_, _, (MapKept.heap_set hb).1, ?_, hbn⟩, ⟨rfl, rfl, rfl, by simp, fun i _ hi => (MapKept.heap_set hb).2 i (fun e => hi (by rw [e]))⟩, by simp⟩
    · simp [Builtin.delete_, run_underlying ht, MapKept.run_getObj_map hb, K.check, hf, MapKept.run_setObj_map _ hb, Result.andThen]
    · have hd : ∀ (l : List (κ × Value)) (i : Nat), at_ l k i = none → mdel l k = l := by
        intro l
        induction l with
        | nil => intro _ _; rfl
        | cons p l ih =>
          intro i hi
          unfold at_ at hi
          by_cases c : p.1 = k
          · rw [if_pos c] at hi; simp at hi
          · rw [if_neg c] at hi
            unfold mdel
            rw [if_neg c, ih _ hi]
      rw [hd l 0 ha]
      exact he
  | some r =>
    obtain ⟨j, v0⟩ := r
    rw [ha] at hf
    obtain ⟨m, rfl, hm, hl, hp, hdel⟩ := at_some ha
    rw [Nat.zero_add] at hf
    refine ⟨{ w with heap := w.heap.setIfInBounds b (.map (es.eraseIdxIfInBounds m) clock) }, ?_, ⟨_, _, (MapKept.heap_set hb).1, ?_, hbn.erase m⟩, ⟨rfl, rfl, rfl, by simp, fun i _ hi => (MapKept.heap_set hb).2 i (fun e => hi (by rw [e]))⟩, by simp⟩
    · simp [Builtin.delete_, run_underlying ht, MapKept.run_getObj_map hb, K.check, hf, MapKept.run_setObj_map _ hb, Result.andThen]
    · rw [hdel, map_erase, ← he, ← map_erase]
      congr 1
      unfold Array.eraseIdxIfInBounds
      split
      · simp
      · rename_i hlt
        rw [List.eraseIdx_of_length_le (by simpa using hlt)]
omit [DecidableEq κ] in
theorem MapIs.len (h : MapIs w kv b l) (ht : P.underlying t = some (.map kt et)) (ty : TypeId) : (Builtin.len_ #[t] ty #[.map (some b)]).run P w = .ok (.int .i64 l.length) w := by
  obtain ⟨es, clock, hb, he⟩ := h.size
  simp [Builtin.len_, run_underlying ht, MapKept.run_getObj_map hb, Result.andThen, goInt, he]
end keys

section walk
variable {κ : Type} [DecidableEq κ] {P : Program} {kt et t : TypeId} {kv : κ → Value} {b : Nat} {l : List (κ × Value)}
variable {ops : Array Oper} {rest : List Oper} {o : Oper} {a : Act} {Q : Exit → Act → World → Prop}
theorem wpList_lookup (w : World) (hg : o.guard = none) (m x : Operand) (t : TypeId) (hop : o.op = Op.lookup t m x false) (K : KeyLaw P kt kv) (ht : P.underlying t = some (.map kt et)) {z : Value} (hz : (zeroValue et).run P w = .ok z w)
    (hm : a.eval m = .map (some b)) (h : MapIs w kv b l) (k : κ) (hx : a.eval x = kv k) (hK : wpList P ops Q rest (a.put o.dst ((mget l k).getD z)) w) : wpList P ops Q (o :: rest) a w := by
  refine wpList_plain hg fun K' hK' => ?_
  have hrun := h.lookup K ht hz k
  unfold Oper.wp
  simp [execOp, hop, hm, hx, hrun, Result.andThen]
  exact hK' _ _ hK
theorem wpList_lookup_ok (w : World) (hg : o.guard = none) (m x : Operand) (t : TypeId) (hop : o.op = Op.lookup t m x true) (K : KeyLaw P kt kv) (ht : P.underlying t = some (.map kt et)) {z : Value} (hz : (zeroValue et).run P w = .ok z w)
    (hm : a.eval m = .map (some b)) (h : MapIs w kv b l) (k : κ) (hx : a.eval x = kv k) (hK : wpList P ops Q rest (a.put o.dst (.tuple #[(mget l k).getD z, .bool (mget l k).isSome])) w) : wpList P ops Q (o :: rest) a w := by
  refine wpList_plain hg fun K' hK' => ?_
  have hrun := h.lookup_ok K ht hz k
  unfold Oper.wp
  simp [execOp, hop, hm, hx, hrun, Result.andThen]
  exact hK' _ _ hK
theorem wpList_update (w : World) (hg : o.guard = none) (m x v : Operand) (t : TypeId) (hop : o.op = Op.mapUpdate t m x v) (K : KeyLaw P kt kv) (ht : P.underlying t = some (.map kt et))
    (hm : a.eval m = .map (some b)) (h : MapIs w kv b l) (k : κ) (hx : a.eval x = kv k) (val : Value) (hv : a.eval v = val)
    (hK : ∀ w', MapIs w' kv b (mput l k val) → w.grownBy w' (some b) → w'.heap.size = w.heap.size → wpList P ops Q rest (a.put o.dst undef) w') : wpList P ops Q (o :: rest) a w := by
  refine wpList_plain hg fun K' hK' => ?_
  obtain ⟨w', hrun, h1, h2, h3⟩ := h.update K ht k val
  unfold Oper.wp
  simp [execOp, hop, hm, hx, hv, hrun, Result.andThen]
  exact hK' _ _ (hK w' h1 h2 h3)
end walk
end Go.Proofs.Ytikefafpkclgeaa.Maps
