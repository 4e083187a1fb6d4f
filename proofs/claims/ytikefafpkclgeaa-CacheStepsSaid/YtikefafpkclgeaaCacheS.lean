/- A cache of blocks, in plain words. -/
import Derived.Test.YtikefafpkclgeaaMapF
set_option linter.unusedVariables false
set_option linter.unusedSimpArgs false
namespace Go.Proofs.Ytikefafpkclgeaa.CacheS
/-- A block that is held: its number, its pins, its content, dirty or not, when it was used, where it lies. -/
structure Ent where
  b : Int
  p : Int
  d : ByteArray
  y : Bool
  u : Int
  a : Nat
/-- What the document keeps of it. -/
structure F where
  b : Int
  p : Int
  d : ByteArray
  y : Bool
def Ent.f (e : Ent) : F := ⟨e.b, e.p, e.d, e.y⟩
def rest {α : Type} (bl : α → Int) (E : List α) (k : Int) : List α := E.filter fun e => decide (bl e ≠ k)
def fnd {α : Type} (bl : α → Int) (E : List α) (k : Int) : Option α := E.find? fun e => decide (bl e = k)
section
variable {α : Type} {bl : α → Int}
theorem fnd_mem {E : List α} {k : Int} {e : α} (h : fnd bl E k = some e) : e ∈ E ∧ bl e = k := ⟨List.mem_of_find?_eq_some h, by simpa using List.find?_some h⟩
theorem fnd_none {E : List α} {k : Int} (h : fnd bl E k = none) : ∀ e ∈ E, bl e ≠ k := by
  intro e he hk
  have := List.find?_eq_none.1 h e he
  simp [hk] at this
theorem fnd_hit : ∀ {E : List α} {e : α}, (E.map bl).Nodup → e ∈ E → fnd bl E (bl e) = some e
  | [], _, _, h => by simp at h
  | x :: E, e, hn, h => by
    rw [List.map_cons, List.nodup_cons] at hn
    unfold fnd
    rw [List.find?_cons]
    rcases List.mem_cons.1 h with rfl | h
    · simp
    · have hne : bl x ≠ bl e := fun q => hn.1 (q ▸ List.mem_map_of_mem h)
      simp only [hne, decide_false]
      exact fnd_hit hn.2 h
theorem fnd_miss {E : List α} {k : Int} (h : ∀ e ∈ E, bl e ≠ k) : fnd bl E k = none := List.find?_eq_none.2 fun e he => by simpa using h e he
theorem rest_mem {E : List α} {k : Int} {e : α} : e ∈ rest bl E k ↔ e ∈ E ∧ bl e ≠ k := by simp [rest]
theorem rest_nil (k : Int) : rest bl [] k = [] := rfl
theorem rest_miss {E : List α} {k : Int} (h : ∀ e ∈ E, bl e ≠ k) : rest bl E k = E := List.filter_eq_self.2 fun e he => by simpa using h e he
theorem rest_split {P Q : List α} {e : α} (h : ((P ++ e :: Q).map bl).Nodup) : rest bl (P ++ e :: Q) (bl e) = P ++ Q := by
  rw [List.map_append, List.map_cons, List.nodup_append, List.nodup_cons] at h
  have h1 : ∀ x ∈ P, bl x ≠ bl e := fun x hx q => h.2.2 _ (List.mem_map_of_mem hx) _ (List.mem_cons_self ..) q
  have h2 : ∀ x ∈ Q, bl x ≠ bl e := fun x hx q => h.2.1.1 (q ▸ List.mem_map_of_mem hx)
  show rest bl (P ++ e :: Q) (bl e) = _
  unfold rest
  rw [List.filter_append, List.filter_cons]
  have e1 : P.filter (fun x => decide (bl x ≠ bl e)) = P := List.filter_eq_self.2 fun x hx => by simpa using h1 x hx
  have e2 : Q.filter (fun x => decide (bl x ≠ bl e)) = Q := List.filter_eq_self.2 fun x hx => by simpa using h2 x hx
  rw [e1, e2]
  simp
theorem rest_len {E : List α} {e : α} (h : (E.map bl).Nodup) (he : e ∈ E) : (rest bl E (bl e)).length + 1 = E.length := by
  obtain ⟨P, Q, rfl⟩ := List.append_of_mem he
  rw [rest_split h]
  simp; omega
theorem rest_sub {E : List α} {k : Int} : (rest bl E k).Sublist E := List.filter_sublist
theorem rest_perm {E : List α} {e : α} (h : (E.map bl).Nodup) (he : e ∈ E) : (rest bl E (bl e) ++ [e]).Perm E := by
  obtain ⟨P, Q, rfl⟩ := List.append_of_mem he
  rw [rest_split h, List.append_assoc]
  exact List.Perm.append_left P (List.perm_append_singleton e Q)
end
theorem rest_f (E : List Ent) (k : Int) : (rest Ent.b E k).map Ent.f = rest F.b (E.map Ent.f) k := by
  unfold rest
  rw [List.filter_map]
  rfl
theorem fnd_f (E : List Ent) (k : Int) : fnd F.b (E.map Ent.f) k = (fnd Ent.b E k).map Ent.f := by
  unfold fnd
  rw [List.find?_map]
  rfl
/-- May it be held? -/
def rightS (k : Int) (d : ByteArray) : Bool := decide (0 ≤ k) && decide (k < 1024) && decide (d.size = 128)
def free (f : F) : Bool := decide (f.p = 0) && !f.y
def zs : ByteArray := ⟨#[]⟩
/-- The first that may be let go makes room. -/
def evictS (L : List F) (k : Int) (d : ByteArray) : List F × Int × Int := match L.find? free with
  | none => (L, 0, 5)
  | some v => (rest F.b L v.b ++ [⟨k, 0, d, false⟩], v.b, 0)
/-- What the document's cache does. -/
def loadS (fr : Int) (L : List F) (k : Int) (d : ByteArray) : List F × Int × Int :=
  if rightS k d = false then (L, 0, 1) else
  if (fnd F.b L k).isSome = true then (L, 0, 7) else
  if (L.length : Int) < fr then (L ++ [⟨k, 0, d, false⟩], -1, 0) else evictS L k d
def lookS (L : List F) (k : Int) : List F × ByteArray × Bool := match fnd F.b L k with
  | none => (L, zs, false)
  | some f => (rest F.b L k ++ [f], f.d, true)
def storeS (L : List F) (k : Int) (d : ByteArray) : List F × Int :=
  if rightS k d = false then (L, 1) else match fnd F.b L k with
  | none => (L, 6)
  | some f => (rest F.b L k ++ [{ f with d := d, y := true }], 0)
def mapB (L : List F) (k : Int) (g : F → F) : List F := L.map fun f => if f.b = k then g f else f
def pinS (L : List F) (k : Int) : List F × Int := match fnd F.b L k with
  | none => (L, 6)
  | some f => (mapB L k fun f => { f with p := f.p + 1 }, 0)
def unpinS (L : List F) (k : Int) : List F × Int := match fnd F.b L k with
  | none => (L, 6)
  | some f => if f.p = 0 then (L, 7) else (mapB L k fun f => { f with p := f.p - 1 }, 0)
def heldS (L : List F) : List Int := L.map F.b
def rise (ks : List Int) : List Int := ks.mergeSort fun x y => decide (x ≤ y)
def dsel (L : List F) (k : Int) : Option (Int × ByteArray) := (fnd F.b L k).bind fun f => if f.y = true then some (k, f.d) else none
def dirtyS (L : List F) : List (Int × ByteArray) := (rise (heldS L)).filterMap (dsel L)
def tookS (L : List F) : List (Int × ByteArray) := (dirtyS L).take 48
def cleanS (L : List F) (ks : List Int) : List F := L.map fun f => if f.b ∈ ks then { f with y := false } else f
def takeS (L : List F) : List F := cleanS L ((tookS L).map (·.1))
end Go.Proofs.Ytikefafpkclgeaa.CacheS
