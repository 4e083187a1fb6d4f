/- Reads laid arguments (numbers, texts, structs, slices of any of these) as the words' kinds, each with the bound that the row's reach gives. Steps of journals, as they lie in memory. A journal and a row of sizes, side by side. -/
import Derived.Test.YtlmnfnkjbgnklaaWMore
import Derived.ChangeArms
import Derived.Deep.Slices
import Derived.SizedLaws
import Derived.Test.YtlmnfnkjbgnklaaJrnlK
section
/- Reads laid arguments (numbers, texts, structs, slices of any of these) as the words' kinds, each with the bound that the row's reach gives. -/
set_option linter.unusedVariables false
set_option linter.unusedSimpArgs false
namespace Go.Proofs.Ytlmnfnkjbgnklaa.Open
open Go.ChangeShapes Go.WideShapes Go.RowKit Go.Proofs.YtlmnfnkjbgnklaaW.PrintWords Go.Proofs.YtlmnfnkjbgnklaaW.PrintLast Go.Proofs.YtlmnfnkjbgnklaaW.PrintMore

def Opens {α : Type} (P : Program) (t : TypeId) (d : Kd α) (good : α → Prop) : Prop :=
  ∀ (H : Type) (enc : TypeId × Value → H) (w : World) (base : Nat) (spare : Nat → Bool) (held : Bool) (fuel : Nat) (cs : List Value) (x : DataW H × List MemPlace),
    DataW.trod enc P w base spare held fuel t cs = some x → (∀ m ∈ x.1.weights P t, m ≤ reachBytes) → ∃ a, d.K w a cs ∧ good a
def OpensF {α : Type} (P : Program) (s : Nat) (l : List (TypeId × Nat)) (d : Kd α) (good : α → Prop) : Prop :=
  ∀ (H : Type) (enc : TypeId × Value → H) (w : World) (base : Nat) (spare : Nat → Bool) (held : Bool) (n : Nat) (cs : List Value) (ys : List (DataW H × List MemPlace)),
    cs.length = d.sz → ys.length = l.length → (∀ (i : Nat) (t : TypeId) (o : Nat), l[i]? = some (t, o) → DataW.trod enc P w base spare held n t ((cs.drop (o - s)).take (P.cellsOf t)) = ys[i]?) →
    (∀ m ∈ DataW.weightsEach P (l.map (·.1)) (ys.map (·.1)), m ≤ reachBytes) → ∃ a, d.K w a cs ∧ good a

section
variable {P : Program} {t e : TypeId} {α β : Type} {a d : Kd α} {b : Kd β} {ga good : α → Prop} {gb : β → Prop} {s : Nat} {l : List (TypeId × Nat)}
theorem opens_int {k : IntKind} (ht : P.underlying t = some (.int k)) : Opens P t (Kd.int k) (fun n => (Lit.int k n).wf = true) := by
  intro H enc w base spare held fuel cs x h hw
  obtain ⟨n, rfl, rfl, hwf⟩ := DataW.trod_int ht h
  exact ⟨n, rfl, hwf⟩
theorem opens_bool (ht : P.underlying t = some .bool) : Opens P t Kd.bool (fun _ => True) := by
  intro H enc w base spare held fuel cs x h hw
  obtain ⟨n, rfl, rfl⟩ := DataW.trod_bool ht h
  exact ⟨n, rfl, trivial⟩
theorem opens_string (ht : P.underlying t = some .string) : Opens P t Kd.string (fun s => s.size ≤ 140737488351232) := by
  intro H enc w base spare held fuel cs x h hw
  obtain ⟨s, rfl, rfl, hm⟩ := DataW.trod_string ht h
  refine ⟨s, rfl, ?_⟩
  have h1 := hw s.data.toList.length (by simp [DataW.weights])
  have h3 : reachBytes = 140737488351232 := rfl
  have h2 : s.data.toList.length = s.size := rfl
  omega
theorem mem_weightsAll {H : Type} {y : DataW H} {m : Nat} : ∀ {ys : List (DataW H)}, y ∈ ys → m ∈ y.weights P e → m ∈ DataW.weightsAll P e ys := by
  intro ys
  induction ys with
  | nil => intro h; simp at h
  | cons z zs ih =>
    intro h hm
    simp only [DataW.weightsAll, List.mem_append]
    rcases List.mem_cons.1 h with rfl | h
    · exact .inl hm
    · exact .inr (ih h hm)
theorem opens_slice (ht : P.underlying t = some (.slice e)) (hd : Opens P e d good) (hsz : P.cellsOf e = d.sz) {by_ : Nat} (hby : P.bytesOf e = by_) : Opens P t (Kd.slice e d) (fun xs => xs.length * by_ ≤ 140737488351232 ∧ ∀ x ∈ xs, good x) := by
  intro H enc w base spare held fuel cs x h hw
  rcases DataW.trod_slice ht h with ⟨rfl, rfl⟩ | ⟨ad, len, cap, elems, rest, n, _, rfl, rfl, hb, hl, hm, hlen, hel, _, _⟩
  · exact ⟨[], ⟨none, 0, rfl, Nat.le_refl _, Kd.C_nil d w⟩, by simp, by simp⟩
  · have each : ∀ i : Fin len, ∃ z : α, good z ∧ ∃ cs', d.K w z cs' ∧ w.cells? base (ad.add (i.val * P.cellsOf e)) (P.cellsOf e) = some cs' := by
      intro i
      have hi := hel i.val i.isLt
      have hy : elems[i.val]? = some (elems[i.val]'(by omega)) := List.getElem?_eq_getElem (by omega)
      rw [hy] at hi
      obtain ⟨cs', hc, htr⟩ := Option.bind_eq_some_iff.1 hi
      obtain ⟨z, hz, hg⟩ := hd H enc w base spare held n cs' _ htr (fun m hm => hw m (by
        simp only [DataW.weights, ht, List.mem_cons, List.mem_append]
        exact .inr (.inl (mem_weightsAll (List.mem_map.2 ⟨_, List.getElem_mem (by omega), rfl⟩) hm))))
      exact ⟨z, hg, cs', hz, hc⟩
    obtain ⟨f, hf⟩ := Classical.axiomOfChoice each
    have hxl : (List.ofFn f).length = len := by simp
    refine ⟨List.ofFn f, ⟨some ad, cap, by rw [hxl], by rw [hxl]; exact hl, ?_⟩, ?_, ?_⟩
    · refine ⟨rfl, by rw [hxl]; unfold maxLen at hm; omega, fun _ => ⟨ad, rfl, fun j p hj => ?_⟩⟩
      have hjl : j < len := by have := (List.getElem?_eq_some_iff.1 hj).1; omega
      obtain ⟨hg, cs', hk, hc⟩ := hf ⟨j, hjl⟩
      have hp : p = f ⟨j, hjl⟩ := by
        have := (List.getElem?_eq_some_iff.1 hj).2
        simp at this
        exact this.symm
      subst hp
      obtain ⟨_, hcl, hat⟩ := World.cells?_some hc
      refine ⟨cs', d.K_len hk, hk, fun i u hu => ?_⟩
      have hil : i < P.cellsOf e := by have := (List.getElem?_eq_some_iff.1 hu).1; omega
      have := hat i hil
      rw [hu, Go.Deep.add_add, hsz] at this
      exact this
    · rw [hxl, ← hby]
      have h1 := hw ((elems.length + rest.length) * P.bytesOf e) (by simp [DataW.weights, ht])
      have h2 : len * P.bytesOf e ≤ (elems.length + rest.length) * P.bytesOf e := Nat.mul_le_mul_right _ (by omega)
      have h3 : reachBytes = 140737488351232 := rfl
      omega
    · intro z hz
      obtain ⟨i, rfl⟩ := List.mem_ofFn.1 hz
      exact (hf i).1
theorem opensF_one (hd : Opens P t d good) (hsz : P.cellsOf t = d.sz) : OpensF P s [(t, s)] d good := by
  intro H enc w base spare held n cs ys hcs hys hf hw
  obtain ⟨y, rfl⟩ : ∃ y, ys = [y] := List.length_eq_one_iff.1 (by simpa using hys)
  have h1 := hf 0 t s rfl
  rw [Nat.sub_self, List.drop_zero, hsz, ← hcs, List.take_length] at h1
  exact hd H enc w base spare held n cs y h1 (fun m hm => hw m (by simp [DataW.weightsEach]; exact hm))
theorem opensF_cons (ha : Opens P t a ga) (hsz : P.cellsOf t = a.sz) (hb : OpensF P (s + a.sz) l b gb) (hl : (l.all fun p => decide (s + a.sz ≤ p.2)) = true) : OpensF P s ((t, s) :: l) (Kd.pair a b) (fun x => ga x.1 ∧ gb x.2) := by
  intro H enc w base spare held n cs ys hcs hys hf hw
  obtain ⟨y, ys, rfl⟩ : ∃ y ys', ys = y :: ys' := by cases ys with | nil => simp at hys | cons y ys => exact ⟨y, ys, rfl⟩
  have hcs' : cs.length = a.sz + b.sz := hcs
  have h1 := hf 0 t s rfl
  rw [Nat.sub_self, List.drop_zero, hsz] at h1
  obtain ⟨x1, k1, g1⟩ := ha H enc w base spare held n (cs.take a.sz) y h1 (fun m hm => hw m (by simp [DataW.weightsEach]; exact .inl hm))
  obtain ⟨x2, k2, g2⟩ := hb H enc w base spare held n (cs.drop a.sz) ys (by rw [List.length_drop]; omega) (by simpa using hys) (fun i t' o hi => by
    have h2 := hf (i + 1) t' o hi
    have ho : s + a.sz ≤ o := by simpa using List.all_eq_true.1 hl (t', o) (List.mem_of_getElem? hi)
    rw [List.drop_drop, show a.sz + (o - (s + a.sz)) = o - s from by omega]
    exact h2) (fun m hm => hw m (by simp [DataW.weightsEach]; exact .inr hm))
  exact ⟨(x1, x2), ⟨_, _, (List.take_append_drop _ _).symm, k1, k2⟩, g1, g2⟩
theorem opens_struct {fs : Array Field} (ht : P.underlying t = some (.struct fs)) (hfs : fs.toList.map (fun f => (f.type, f.offset)) = l) (hd : OpensF P 0 l d good) (hsz : P.cellsOf t = d.sz) : Opens P t d good := by
  intro H enc w base spare held fuel cs x h hw
  obtain ⟨xs, n, _, rfl, hcl, hxl, hf⟩ := DataW.trod_struct ht h
  subst hfs
  refine hd H enc w base spare held n cs xs (by omega) (by simp [hxl]) (fun i t' o hi => ?_) (fun m hm => hw m ?_)
  · simp only [List.getElem?_map, Option.map_eq_some_iff, Prod.mk.injEq] at hi
    obtain ⟨f, hfi, rfl, rfl⟩ := hi
    exact hf i f (by simpa using hfi)
  · simp only [DataW.weights, ht]
    simpa [List.map_map, Function.comp_def] using hm
theorem opens_iso (f : β → α) (g : α → β) (hfg : ∀ x, f (g x) = x) (hd : Opens P t d good) : Opens P t (Kd.iso d f) (fun x => good (f x)) := by
  intro H enc w base spare held fuel cs x h hw
  obtain ⟨z, hz, hg⟩ := hd H enc w base spare held fuel cs x h hw
  exact ⟨g z, by show d.K w (f (g z)) cs; rw [hfg]; exact hz, by show good (f (g z)); rw [hfg]; exact hg⟩
theorem Opens.mono {good' : α → Prop} (hd : Opens P t d good) (hg : ∀ x, good x → good' x) : Opens P t d good' := by
  intro H enc w base spare held fuel cs x h hw
  obtain ⟨z, hz, h2⟩ := hd H enc w base spare held fuel cs x h hw
  exact ⟨z, hz, hg z h2⟩
end
end Go.Proofs.Ytlmnfnkjbgnklaa.Open
end

section
/- Steps of journals, as they lie in memory. -/
set_option linter.unusedVariables false
set_option linter.unusedSimpArgs false
namespace Go.Proofs.Ytlmnfnkjbgnklaa.Jrnl
open Go.RowKit Go.Proofs.YtlmnfnkjbgnklaaW.PrintWords Go.Proofs.YtlmnfnkjbgnklaaW.PrintLast Go.Proofs.YtlmnfnkjbgnklaaW.PrintMore Go.Proofs.Ytlmnfnkjbgnklaa.TxnS Go.Proofs.Ytlmnfnkjbgnklaa.Txn Go.Proofs.Ytlmnfnkjbgnklaa.JS Go.Proofs.Ytlmnfnkjbgnklaa.Run Go.Proofs.Ytlmnfnkjbgnklaa.Open
theorem cell_sub (w : World) (ad : Addr) (m j : Nat) (hj : j ≠ 0) : w.cell? ⟨(ad.add m).block, (ad.add m).off + j, none⟩ = w.cell? (ad.add (m + j)) := by
  have h1 : (ad.add m).block = ad.block := by unfold Addr.add; split <;> rfl
  have h2 : (ad.add m).off = ad.off + m := by
    unfold Addr.add
    split
    · rename_i h; have h' : m = 0 := by simpa using h
      rw [h', Nat.add_zero]
    · rfl
  have h3 : ad.add (m + j) = ⟨ad.block, ad.off + (m + j), none⟩ := by
    unfold Addr.add
    split
    · rename_i h; have h' : m + j = 0 := by simpa using h
      omega
    · rfl
  rw [h1, h2, h3, Nat.add_assoc]
def chK : Kd Ch := Kd.pair (Kd.int .i64) Kd.string
def goodCh (c : Ch) : Prop := (Lit.int .i64 c.1).wf = true ∧ c.2.size ≤ 140737488351232
theorem opens_ch : Opens Try.prog 69 chK goodCh :=
  opens_struct Try.underlying69 rfl (opensF_cons (opens_int Try.underlying3) (by kernel_rfl) (opensF_one (opens_string Try.underlying9) (by kernel_rfl)) rfl) (by kernel_rfl)
def goodL (l : List Ch) : Prop := l.length ≤ 140737488351232 ∧ ∀ c ∈ l, goodCh c
theorem opens_changes : Opens Try.prog 31 (Kd.slice 69 chK) goodL :=
  Opens.mono (opens_slice Try.underlying31 opens_ch (by kernel_rfl) (by_ := 24) (by kernel_rfl)) (fun x h => ⟨by have h1 : x.length * 24 ≤ 140737488351232 := h.1; omega, h.2⟩)
theorem chs_of {W : World} {A : Option Addr} {n cp : Nat} {l : List Ch} (h : (Kd.slice 69 chK).K W l [.slice A n cp]) : n = l.length ∧ Chs W A l := by
  obtain ⟨A1, c1, he, hcc, hC⟩ := h
  obtain ⟨rfl, rfl, rfl⟩ : A = A1 ∧ n = l.length ∧ cp = c1 := by simpa using he
  refine ⟨rfl, fun i hi => ?_⟩
  obtain ⟨ad, hA, hc⟩ := hC.2.2 (by omega)
  obtain ⟨c, hl, hk, hcell⟩ := hc i l[i] (List.getElem?_eq_getElem hi)
  obtain ⟨_, _, rfl, rfl, rfl⟩ := hk
  refine ⟨ad, hA, ?_, ?_⟩
  · exact hcell 0 _ rfl
  · rw [cell_sub W ad _ 1 (by decide)]
    exact hcell 1 _ rfl
structure Stp where
  kind : Int
  k : Int
  l : List Ch
def stpK : Kd Stp := Kd.iso (Kd.pair (Kd.int .i64) (Kd.pair (Kd.int .i64) (Kd.slice 69 chK))) (fun s => (s.kind, s.k, s.l))
def goodS (s : Stp) : Prop := (Lit.int .i64 s.k).wf = true ∧ goodL s.l
theorem opens_stp : Opens Try.prog 33 stpK goodS := by
  refine Opens.mono (opens_iso _ (fun x => ⟨x.1, x.2.1, x.2.2⟩) (fun _ => rfl) (opens_struct Try.underlying33 rfl (opensF_cons (opens_int Try.underlying3) (by kernel_rfl) (opensF_cons (opens_int Try.underlying3) (by kernel_rfl) (opensF_one opens_changes (by kernel_rfl)) rfl) rfl) (by kernel_rfl))) (fun x h => ⟨h.2.1, h.2.2⟩)
theorem opens_steps : Opens Try.prog 22 (Kd.slice 33 stpK) (fun l => ∀ s ∈ l, goodS s) :=
  Opens.mono (opens_slice Try.underlying22 opens_stp (by kernel_rfl) rfl) (fun x h => h.2)
def sobj (s : Stp) (A : Option Addr) (c : Nat) : Array Value := #[.int .i64 s.kind, .int .i64 s.k, .slice A s.l.length c]
/-- Steps in memory. -/
def Stps (w : World) (A : Option Addr) (l : List Stp) : Prop := ∀ i (h : i < l.length), ∃ ad A' c', A = some ad ∧ (∀ j u, (sobj l[i] A' c')[j]? = some u → w.cell? (ad.add (i * 3 + j)) = some u) ∧ Chs w A' l[i].l
theorem Stps.below {w w' : World} {A : Option Addr} {l : List Stp} (h : Stps w A l) (hb : Below w.heap.size w w') : Stps w' A l := by
  intro i hi
  obtain ⟨ad, A', c', e, hc, hl⟩ := h i hi
  refine ⟨ad, A', c', e, fun j u hu => ?_, hl.below hb⟩
  have := hc j u hu
  exact (World.cell?_of_block (hb.block _ (World.block_lt_of_cell? w _ this))).trans this
theorem stps_of {W : World} {A : Option Addr} {n cp : Nat} {l : List Stp} (h : (Kd.slice 33 stpK).K W l [.slice A n cp]) : n = l.length ∧ Stps W A l := by
  obtain ⟨A1, c1, he, hcc, hC⟩ := h
  obtain ⟨rfl, rfl, rfl⟩ : A = A1 ∧ n = l.length ∧ cp = c1 := by simpa using he
  refine ⟨rfl, fun i hi => ?_⟩
  obtain ⟨ad, hA, hc⟩ := hC.2.2 (by omega)
  obtain ⟨c, hl, hk, hcell⟩ := hc i l[i] (List.getElem?_eq_getElem hi)
  obtain ⟨_, _, rfl, rfl, _, _, rfl, rfl, hk3⟩ := hk
  have hk4 := hk3
  obtain ⟨A', c', rfl, hcap, hC'⟩ := hk3
  exact ⟨ad, A', c', hA, fun j u hu => hcell j u (by simpa [sobj] using hu), (chs_of hk4).2⟩
theorem stp_cells {w : World} {ad : Addr} {i : Nat} {s : Stp} {A' : Option Addr} {c' : Nat} (h : ∀ j u, (sobj s A' c')[j]? = some u → w.cell? (ad.add (i * 3 + j)) = some u) :
    w.cell? (ad.add (i * 3)) = some (.int .i64 s.kind) ∧ w.cell? ⟨(ad.add (i * 3)).block, (ad.add (i * 3)).off + 1, none⟩ = some (.int .i64 s.k) ∧ w.cell? ⟨(ad.add (i * 3)).block, (ad.add (i * 3)).off + 2, none⟩ = some (.slice A' s.l.length c') := by
  refine ⟨h 0 _ rfl, ?_, ?_⟩
  · rw [cell_sub w ad _ 1 (by decide)]; exact h 1 _ rfl
  · rw [cell_sub w ad _ 2 (by decide)]; exact h 2 _ rfl
end Go.Proofs.Ytlmnfnkjbgnklaa.Jrnl
end

section
/- A journal and a row of sizes, side by side. -/
set_option linter.unusedVariables false
set_option linter.unusedSimpArgs false
namespace Go.Proofs.Ytlmnfnkjbgnklaa.Jrnl
open Go.RowKit Go.Proofs.YtlmnfnkjbgnklaaW.PrintWords Go.Proofs.YtlmnfnkjbgnklaaW.PrintLast Go.Proofs.YtlmnfnkjbgnklaaW.PrintMore Go.Proofs.Ytlmnfnkjbgnklaa.TxnS Go.Proofs.Ytlmnfnkjbgnklaa.Txn Go.Proofs.Ytlmnfnkjbgnklaa.JS Go.Proofs.Ytlmnfnkjbgnklaa.Run
structure RS (W w : World) (jb : Nat) (v u : Value) (J : Jr) (l : List Nat) : Prop where
  j : JIs W.heap.size w jb v J
  uu : RowX w W.heap.size 3 u (sv l)
  b : Below W.heap.size W w
  d : ∀ k, u.ownBlock = some k → ¬ fp jb v k
  ok : JW J
section
variable {W w w' : World} {jb : Nat} {v u r : Value} {J J' : Jr} {l : List Nat} {e : Ending}
theorem RS.below (h : RS W w jb v u J l) (hb : Below w.heap.size w w') : RS W w' jb v u J l := ⟨h.j.below hb, h.uu.below hb, h.b.trans (hb.mono h.b.size), h.d, h.ok⟩
theorem RS.fr {v' : Value} (h : RS W w jb v u J l) (hj : JIs W.heap.size w' jb v' J') (hf : Fr w w' (fp jb v)) (hp : ∀ k, fp jb v' k → fp jb v k ∨ w.heap.size ≤ k) (ok : JW J') : RS W w' jb v' u J' l := by
  refine ⟨hj, h.uu.step fun k hk => hf.block k (h.uu.lt k hk) (h.d k hk), Fr.below h.b hf (fun k hk => h.j.ge hk) h.b.size, fun k hk hf => ?_, ok⟩
  rcases hp k hf with h1 | h1
  · exact h.d k hk h1
  · have := h.uu.lt k hk
    omega
theorem RS.post (h : RS W w jb v u J l) (hp : JPost W.heap.size jb v w r J' e w') (ok : JW J') : ∃ v', e = .returned r ∧ RS W w' jb v' u J' l := by
  obtain ⟨v', he, hj, hf, hp⟩ := hp
  exact ⟨v', he, h.fr hj hf hp ok⟩
theorem RS.apost {x : List Ch × Int × Jr} (h : RS W w jb v u J l) (hp : APost W.heap.size jb v w x e w') (ok : JW x.2.2) : ∃ A c v', e = .returned (.tuple #[.slice A x.1.length c, .int .i64 x.2.1]) ∧ RS W w' jb v' u x.2.2 l := by
  obtain ⟨u', v', he, hu, hj, hf, hp, hd⟩ := hp
  obtain ⟨A, c, rfl⟩ := own_slice hu
  exact ⟨A, c, v', he, h.fr hj hf hp ok⟩
theorem RS.push {u' : Value} {n : Nat} (h : RS W w jb v u J l) (hr : RowX w' W.heap.size 3 u' (sv l ++ [.int .i64 (n : Int)])) (hg : w.grownBy w' u.ownBlock) (ho : u'.ownBlock = u.ownBlock ∨ u'.ownBlock = some w.heap.size) : RS W w' jb v u' J (l ++ [n]) := by
  have hge : ∀ k, u.ownBlock = some k → W.heap.size ≤ k := fun k hk => h.uu.ge k hk
  refine ⟨h.j.step fun k hk => hg.block k (h.j.lt hk) (fun e => h.d k e.symm hk), by rw [sv_push]; exact hr, h.b.grown hg h.b.size (fun k hk => hge k hk), fun k hk hf => ?_, h.ok⟩
  rcases ho with e | e
  · exact h.d k (Eq.trans (Eq.symm e) hk) hf
  · have := Option.some.inj (Eq.trans (Eq.symm e) hk)
    have := h.j.lt hf
    omega
theorem appJ_ok (h : JW J) (c : List Ch) : JW (appJ J c).2.2 := by
  unfold appJ
  split
  · exact h
  · split
    · exact h
    · rename_i h1 h2
      exact pushJ_ok h c.length (Decidable.not_not.1 h2)
theorem appJ_len (J : Jr) (c : List Ch) (h : (appJ J c).2.1 = 0) : (appJ J c).1.length = c.length + 1 ∧ (appJ J c).2.2 = pushJ J (c.length + 1) := by
  unfold appJ at h ⊢
  split
  · rename_i h1; rw [if_pos h1] at h; cases h
  · rename_i h1
    rw [if_neg h1] at h
    split
    · rename_i h2; rw [if_pos h2] at h; cases h
    · exact ⟨by unfold wsJ; rw [wsA_length]; simp [blocksL], rfl⟩
theorem appJ_err (J : Jr) (c : List Ch) (h : (appJ J c).2.1 ≠ 0) : (appJ J c).2.2 = J := by
  unfold appJ at h ⊢
  split
  · rfl
  · rename_i h1
    rw [if_neg h1] at h
    split
    · rfl
    · rename_i h2; rw [if_neg h2] at h; exact absurd rfl h
end
end Go.Proofs.Ytlmnfnkjbgnklaa.Jrnl
end
