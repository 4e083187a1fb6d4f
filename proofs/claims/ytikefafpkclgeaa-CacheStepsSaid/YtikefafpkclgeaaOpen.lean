/- Reads laid arguments (numbers, texts, structs, slices of any of these) as the words' kinds, each with the bound that the row's reach gives. -/
import Derived.Test.YtikefafpkclgeaaWMore
import Derived.ChangeArms
import Derived.Deep.Slices
import Derived.SizedLaws
set_option linter.unusedVariables false
set_option linter.unusedSimpArgs false
namespace Go.Proofs.Ytikefafpkclgeaa.Open
open Go.ChangeShapes Go.WideShapes Go.RowKit Go.Proofs.YtikefafpkclgeaaW.PrintWords Go.Proofs.YtikefafpkclgeaaW.PrintLast Go.Proofs.YtikefafpkclgeaaW.PrintMore

def Opens {α : Type} (P : Program) (t : TypeId) (d : Kd α) (good : α → Prop) : Prop :=
  ∀ (H : Type) (enc : TypeId × Value → H) (w : World) (base : Nat) (spare : Nat → Bool) (held : Bool) (fuel : Nat) (cs : List Value) (x : DataW H × List MemPlace),
    DataW.trod enc P w base spare held fuel t cs = some x → (∀ m ∈ x.1.weights P t, m ≤ reachBytes) → ∃ a, d.K w a cs ∧ good a
def OpensF {α : Type} (P : Program) (s : Nat) (l : List (TypeId × Nat)) (d : Kd α) (good : α → Prop) : Prop :=
  ∀ (H : Type) (enc : TypeId × Value → H) (w : World) (base : Nat) (spare : Nat → Bool) (held : Bool) (n : Nat) (cs : List Value) (ys : List (DataW H × List MemPlace)),
    cs.length = d.sz → ys.length = l.length → (∀ (i : Nat) (t : TypeId) (o : Nat), l[i]? = some (t, o) → DataW.trod enc P w base spare held n t ((cs.drop (o - s)).take (P.cellsOf t)) = ys[i]?) →
    (∀ m ∈ DataW.weightsEach P (l.map (·.1)) (ys.map (·.1)), m ≤ reachBytes) → ∃ a, d.K w a cs ∧ good a

section
variable {P : Program} {t e : TypeId} {α β : Type} {a d : Kd α} {b : Kd β} {ga good : α → Prop} {gb : β → Prop} {s : Nat} {l : List (TypeId × Nat)}
theorem opens_int {k : IntKind} (ht : P.underlying t = some (.int k)) : Opens P t (Kd.int k) (fun n => (Lit.int k n).wf = true) := by
  intro H enc w base spare held fuel cs x h hw
  obtain ⟨n, rfl, rfl, hwf⟩ := DataW.trod_int ht h
  exact ⟨n, rfl, hwf⟩
theorem opens_bool (ht : P.underlying t = some .bool) : Opens P t Kd.bool (fun _ => True) := by
  intro H enc w base spare held fuel cs x h hw
  obtain ⟨n, rfl, rfl⟩ := DataW.trod_bool ht h
  exact ⟨n, rfl, trivial⟩
theorem opens_string (ht : P.underlying t = some .string) : Opens P t Kd.string (fun s => s.size ≤ 140737488351232) := by
  intro H enc w base spare held fuel cs x h hw
  obtain ⟨s, rfl, rfl, hm⟩ := DataW.trod_string ht h
  refine ⟨s, rfl, ?_⟩
  have h1 := hw s.data.toList.length (by simp [DataW.weights])
  have h3 : reachBytes = 140737488351232 := rfl
  have h2 : s.data.toList.length = s.size := rfl
  omega
theorem mem_weightsAll {H : Type} {y : DataW H} {m : Nat} : ∀ {ys : List (DataW H)}, y ∈ ys → m ∈ y.weights P e → m ∈ DataW.weightsAll P e ys := by
  intro ys
  induction ys with
  | nil => intro h; simp at h
  | cons z zs ih =>
    intro h hm
    simp only [DataW.weightsAll, List.mem_append]
    rcases List.mem_cons.1 h with rfl | h
    · exact .inl hm
    · exact .inr (ih h hm)
theorem opens_slice (ht : P.underlying t = some (.slice e)) (hd : Opens P e d good) (hsz : P.cellsOf e = d.sz) {by_ : Nat} (hby : P.bytesOf e = by_) : Opens P t (Kd.slice e d) (fun xs => xs.length * by_ ≤ 140737488351232 ∧ ∀ x ∈ xs, good x) := by
  intro H enc w base spare held fuel cs x h hw
  rcases DataW.trod_slice ht h with ⟨rfl, rfl⟩ | ⟨ad, len, cap, elems, rest, n, _, rfl, rfl, hb, hl, hm, hlen, hel, _, _⟩
  · exact ⟨[], ⟨none, 0, rfl, Nat.le_refl _, Kd.C_nil d w⟩, by simp, by simp⟩
  · have each : ∀ i : Fin len, ∃ z : α, good z ∧ ∃ cs', d.K w z cs' ∧ w.cells? base (ad.add (i.val * P.cellsOf e)) (P.cellsOf e) = some cs' := by
      intro i
      have hi := hel i.val i.isLt
      have hy : elems[i.val]? = some (elems[i.val]'(by omega)) := List.getElem?_eq_getElem (by omega)
      rw [hy] at hi
      obtain ⟨cs', hc, htr⟩ := Option.bind_eq_some_iff.1 hi
      obtain ⟨z, hz, hg⟩ := hd H enc w base spare held n cs' _ htr (fun m hm => hw m (by
        simp only [DataW.weights, ht, List.mem_cons, List.mem_append]
        exact .inr (.inl (mem_weightsAll (List.mem_map.2 ⟨_, List.getElem_mem (by omega), rfl⟩) hm))))
      exact ⟨z, hg, cs', hz, hc⟩
    obtain ⟨f, hf⟩ := Classical.axiomOfChoice each
    have hxl : (List.ofFn f).length = len := by simp
    refine ⟨List.ofFn f, ⟨some ad, cap, by rw [hxl], by rw [hxl]; exact hl, ?_⟩, ?_, ?_⟩
    · refine ⟨rfl, by rw [hxl]; unfold maxLen at hm; omega, fun _ => ⟨ad, rfl, fun j p hj => ?_⟩⟩
      have hjl : j < len := by have := (List.getElem?_eq_some_iff.1 hj).1; omega
      obtain ⟨hg, cs', hk, hc⟩ := hf ⟨j, hjl⟩
      have hp : p = f ⟨j, hjl⟩ := by
        have := (List.getElem?_eq_some_iff.1 hj).2
        simp at this
        exact this.symm
      subst hp
      obtain ⟨_, hcl, hat⟩ := World.cells?_some hc
      refine ⟨cs', d.K_len hk, hk, fun i u hu => ?_⟩
      have hil : i < P.cellsOf e := by have := (List.getElem?_eq_some_iff.1 hu).1; omega
      have := hat i hil
      rw [hu, Go.Deep.add_add, hsz] at this
      exact this
    · rw [hxl, ← hby]
      have h1 := hw ((elems.length + rest.length) * P.bytesOf e) (by simp [DataW.weights, ht])
      have h2 : len * P.bytesOf e ≤ (elems.length + rest.length) * P.bytesOf e := Nat.mul_le_mul_right _ (by omega)
      have h3 : reachBytes = 140737488351232 := rfl
      omega
    · intro z hz
      obtain ⟨i, rfl⟩ := List.mem_ofFn.1 hz
      exact (hf i).1
theorem opensF_one (hd : Opens P t d good) (hsz : P.cellsOf t = d.sz) : OpensF P s [(t, s)] d good := by
  intro H enc w base spare held n cs ys hcs hys hf hw
  obtain ⟨y, rfl⟩ : ∃ y, ys = [y] := List.length_eq_one_iff.1 (by simpa using hys)
  have h1 := hf 0 t s rfl
  rw [Nat.sub_self, List.drop_zero, hsz, ← hcs, List.take_length] at h1
  exact hd H enc w base spare held n cs y h1 (fun m hm => hw m (by simp [DataW.weightsEach]; exact hm))
theorem opensF_cons (ha : Opens P t a ga) (hsz : P.cellsOf t = a.sz) (hb : OpensF P (s + a.sz) l b gb) (hl : (l.all fun p => decide (s + a.sz ≤ p.2)) = true) : OpensF P s ((t, s) :: l) (Kd.pair a b) (fun x => ga x.1 ∧ gb x.2) := by
  intro H enc w base spare held n cs ys hcs hys hf hw
  obtain ⟨y, ys, rfl⟩ : ∃ y ys', ys = y :: ys' := by cases ys with | nil => simp at hys | cons y ys => exact ⟨y, ys, rfl⟩
  have hcs' : cs.length = a.sz + b.sz := hcs
  have h1 := hf 0 t s rfl
  rw [Nat.sub_self, List.drop_zero, hsz] at h1
  obtain ⟨x1, k1, g1⟩ := ha H enc w base spare held n (cs.take a.sz) y h1 (fun m hm => hw m (by simp [DataW.weightsEach]; exact .inl hm))
  obtain ⟨x2, k2, g2⟩ := hb H enc w base spare held n (cs.drop a.sz) ys (by rw [List.length_drop]; omega) (by simpa using hys) (fun i t' o hi => by
    have h2 := hf (i + 1) t' o hi
    have ho : s + a.sz ≤ o := by simpa using List.all_eq_true.1 hl (t', o) (List.mem_of_getElem? hi)
    rw [List.drop_drop, show a.sz + (o - (s + a.sz)) = o - s from by omega]
    exact h2) (fun m hm => hw m (by simp [DataW.weightsEach]; exact .inr hm))
  exact ⟨(x1, x2), ⟨_, _, (List.take_append_drop _ _).symm, k1, k2⟩, g1, g2⟩
theorem opens_struct {fs : Array Field} (ht : P.underlying t = some (.struct fs)) (hfs : fs.toList.map (fun f => (f.type, f.offset)) = l) (hd : OpensF P 0 l d good) (hsz : P.cellsOf t = d.sz) : Opens P t d good := by
  intro H enc w base spare held fuel cs x h hw
  obtain ⟨xs, n, _, rfl, hcl, hxl, hf⟩ := DataW.trod_struct ht h
  subst hfs
  refine hd H enc w base spare held n cs xs (by omega) (by simp [hxl]) (fun i t' o hi => ?_) (fun m hm => hw m ?_)
  · simp only [List.getElem?_map, Option.map_eq_some_iff, Prod.mk.injEq] at hi
    obtain ⟨f, hfi, rfl, rfl⟩ := hi
    exact hf i f (by simpa using hfi)
  · simp only [DataW.weights, ht]
    simpa [List.map_map, Function.comp_def] using hm
theorem opens_iso (f : β → α) (g : α → β) (hfg : ∀ x, f (g x) = x) (hd : Opens P t d good) : Opens P t (Kd.iso d f) (fun x => good (f x)) := by
  intro H enc w base spare held fuel cs x h hw
  obtain ⟨z, hz, hg⟩ := hd H enc w base spare held fuel cs x h hw
  exact ⟨g z, by show d.K w (f (g z)) cs; rw [hfg]; exact hz, by show good (f (g z)); rw [hfg]; exact hg⟩
theorem Opens.mono {good' : α → Prop} (hd : Opens P t d good) (hg : ∀ x, good x → good' x) : Opens P t d good' := by
  intro H enc w base spare held fuel cs x h hw
  obtain ⟨z, hz, h2⟩ := hd H enc w base spare held fuel cs x h hw
  exact ⟨z, hz, hg z h2⟩
end
end Go.Proofs.Ytikefafpkclgeaa.Open
