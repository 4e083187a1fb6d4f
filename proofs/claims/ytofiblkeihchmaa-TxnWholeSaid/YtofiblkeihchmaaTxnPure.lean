/- Merging: plain laws. -/
import Derived.Test.YtofiblkeihchmaaTxnM
set_option linter.unusedVariables false
set_option linter.unusedSimpArgs false
namespace Go.Proofs.Ytofiblkeihchmaa.TxnS
open Go.RowKit Go.Proofs.YtofiblkeihchmaaW.PrintWords Go.Proofs.Ytofiblkeihchmaa.Keys Go.Proofs.Ytofiblkeihchmaa.Maps
theorem allF_over (g : FS) : ∀ (m : List Ch) (k : Int), allF g m k = ((allF none0 m k).or (g k)) := by
  intro m
  have key : ∀ (m : List Ch) (g : FS) (k : Int), allF g m k = ((allF none0 m k).or (g k)) := by
    intro m
    induction m with
    | nil => intro g k; rfl
    | cons c m ih =>
      intro g k
      have e1 : allF g (c :: m) = allF (putF g c) m := rfl
      have e2 : allF none0 (c :: m) = allF (putF none0 c) m := rfl
      rw [e1, e2, ih (putF g c) k, ih (putF none0 c) k, Option.or_assoc]
      congr 1
      unfold putF none0
      split <;> rfl
  exact key m g
theorem allF_not : ∀ (m : List Ch) (f : FS) (k : Int), k ∉ m.map Prod.fst → allF f m k = f k
  | [], _, _, _ => rfl
  | c :: m, f, k, h => by
    rw [List.map_cons, List.mem_cons] at h
    have e1 : allF f (c :: m) = allF (putF f c) m := rfl
    rw [e1, allF_not m _ k (fun hh => h (.inr hh))]
    unfold putF
    rw [if_neg (fun e => h (.inl e.symm))]
theorem allF_mem : ∀ (m : List Ch) (f : FS) (k : Int) (s : ByteArray), (m.map Prod.fst).Nodup → (k, s) ∈ m → allF f m k = some s
  | [], _, _, _, _, h => by simp at h
  | c :: m, f, k, s, hn, h => by
    rw [List.map_cons, List.nodup_cons] at hn
    have e1 : allF f (c :: m) = allF (putF f c) m := rfl
    rw [e1]
    rcases List.mem_cons.1 h with rfl | h
    · rw [allF_not m _ k hn.1]
      unfold putF
      rw [if_pos rfl]
    · exact allF_mem m _ k s hn.2 h
theorem listF_keys (f : FS) : (listF f).map Prod.fst = keysL (vsF f) := by
  unfold listF
  rw [List.map_map]
  exact (List.map_congr_left fun x _ => rfl).trans (List.map_id _)
theorem listF_mem {f : FS} (hf : SmallS f) {k : Int} {s : ByteArray} (h : f k = some s) : (k, s) ∈ listF f := by
  unfold listF
  refine List.mem_map.2 ⟨k, (keysL_mem (vs_small hf) k).2 (by simp [vsF, h]), by rw [h]; rfl⟩
theorem listF_says {f : FS} (hf : SmallS f) {c : Ch} (h : c ∈ listF f) : f c.1 = some c.2 := by
  unfold listF at h
  obtain ⟨k, hk, rfl⟩ := List.mem_map.1 h
  have := (keysL_mem (vs_small hf) k).1 hk
  unfold vsF at this
  rw [Option.isSome_map] at this
  obtain ⟨s, hs⟩ := Option.isSome_iff_exists.1 this
  show f k = some ((f k).getD _)
  rw [hs]; rfl
theorem allF_listF {f : FS} (hf : SmallS f) : allF none0 (listF f) = f := by
  funext k
  cases h : f k with
  | some s => exact allF_mem _ _ k s (by rw [listF_keys]; exact keysL_nodup _) (listF_mem hf h)
  | none =>
    rw [allF_not]
    · rfl
    · rw [listF_keys, keysL_mem (vs_small hf)]
      simp [vsF, h]
theorem rightL_lt : ∀ (m : List Ch) (a : Int), rightL a m → (m.map Prod.fst).Pairwise (· < ·)
  | [], _, _ => List.Pairwise.nil
  | c :: m, a, h => by
    rw [List.map_cons]
    refine List.Pairwise.cons (fun x hx => ?_) (rightL_lt m c.1 h.2.2.2)
    obtain ⟨d, hd, rfl⟩ := List.mem_map.1 hx
    exact (rightL_all c.1 m h.2.2.2 d hd).1
theorem rightL_of (a : Int) : ∀ (m : List Ch), (m.map Prod.fst).Pairwise (· < ·) → (∀ c ∈ m, a < c.1 ∧ c.1 < 1024 ∧ c.2.size = 128) → rightL a m
  | [], _, _ => trivial
  | c :: m, hp, h => by
    rw [List.map_cons, List.pairwise_cons] at hp
    have hc := h c (List.mem_cons_self ..)
    exact ⟨hc.1, hc.2.1, hc.2.2, rightL_of c.1 m hp.2 fun d hd => ⟨hp.1 _ (List.mem_map_of_mem hd), (h d (List.mem_cons_of_mem _ hd)).2⟩⟩
theorem right_small {m : List Ch} (h : rightL (-1) m) : SmallS (allF none0 m) := allF_small m none0 none_small (fun c hc => by have := rightL_all (-1) m h c hc; omega)
theorem eq_of_lt {a b : List Int} (ha : a.Pairwise (· < ·)) (hb : b.Pairwise (· < ·)) (h : ∀ x, x ∈ a ↔ x ∈ b) : a = b := by
  have na : a.Nodup := ha.imp fun h => Int.ne_of_lt h
  have nb : b.Nodup := hb.imp fun h => Int.ne_of_lt h
  exact List.Perm.eq_of_pairwise (le := (· < ·)) (fun x y _ _ h1 h2 => absurd h1 (Int.not_lt.2 (Int.le_of_lt h2))) ha hb ((List.perm_ext_iff_of_nodup na nb).2 h)
/-- What is right is what its function is. -/
theorem listF_allF {m : List Ch} (h : rightL (-1) m) : listF (allF none0 m) = m := by
  have hs := right_small h
  have hlt := rightL_lt m (-1) h
  have hn : (m.map Prod.fst).Nodup := hlt.imp fun h => Int.ne_of_lt h
  have hk : keysL (vsF (allF none0 m)) = m.map Prod.fst := by
    refine eq_of_lt (keysL_lt _) hlt fun x => ?_
    rw [keysL_mem (vs_small hs)]
    constructor
    · intro hx
      refine Decidable.byContradiction fun hno => ?_
      have := allF_not m none0 x hno
      unfold vsF at hx
      rw [this] at hx
      simp [none0] at hx
    · intro hx
      obtain ⟨c, hc, rfl⟩ := List.mem_map.1 hx
      have := allF_mem m none0 c.1 c.2 hn hc
      simp [vsF, this]
  unfold listF
  rw [hk, List.map_map]
  refine (List.map_congr_left fun c hc => ?_).trans (List.map_id _)
  have := allF_mem m none0 c.1 c.2 hn hc
  show (c.1, (allF none0 m c.1).getD _) = c
  rw [this]
  rfl
/-- All contents are blocks. -/
def Full (f : FS) : Prop := ∀ k s, f k = some s → s.size = 128
theorem right_listF {f : FS} (hs : SmallS f) (hf : Full f) (hl : (listF f).length ≤ 48) : right (listF f) := by
  have h1 : ∀ c ∈ listF f, -1 < c.1 ∧ c.1 < 1024 ∧ c.2.size = 128 := fun c hc => by
    have h1 := listF_says hs hc
    have h2 := hs c.1 (by rw [h1]; rfl)
    exact ⟨by omega, h2.2, hf _ _ h1⟩
  have h2 : ((listF f).map Prod.fst).Pairwise (· < ·) := by rw [listF_keys]; exact keysL_lt _
  generalize listF f = m at h1 h2 hl ⊢
  exact ⟨rightL_of (-1) m h2 h1, hl⟩
theorem allF_full : ∀ (l : List Ch) (f : FS), Full f → (∀ c ∈ l, c.2.size = 128) → Full (allF f l)
  | [], f, hf, _ => hf
  | c :: l, f, hf, h => by
    refine allF_full l (putF f c) (fun k s hs => ?_) (fun d hd => h d (List.mem_cons_of_mem _ hd))
    unfold putF at hs
    split at hs
    · obtain rfl := Option.some.inj hs; exact h c (List.mem_cons_self ..)
    · exact hf k s hs
theorem mer_small {a b : List Ch} (ha : right a) (hb : right b) : SmallS (merF a b) := allF_small b _ (right_small ha.1) (fun c hc => by have := rightL_all (-1) b hb.1 c hc; omega)
theorem mer_full {a b : List Ch} (ha : right a) (hb : right b) : Full (merF a b) := allF_full b _ (allF_full a none0 (fun k s h => by simp [none0] at h) (fun c hc => (rightL_all (-1) a ha.1 c hc).2.2)) (fun c hc => (rightL_all (-1) b hb.1 c hc).2.2)
theorem merS_of {a b : List Ch} (ha : right a) (hb : right b) : merS a b = if 48 < (listF (merF a b)).length then ([], 2) else (listF (merF a b), 0) := by
  unfold merS
  rw [if_neg (fun hh => hh ⟨ha, hb⟩)]
theorem merS_ok {a b : List Ch} (h : (merS a b).2 = 0) : right a ∧ right b ∧ (merS a b).1 = listF (merF a b) ∧ right (merS a b).1 := by
  by_cases h1 : right a ∧ right b
  · have e := merS_of h1.1 h1.2
    have hr := right_listF (mer_small h1.1 h1.2) (mer_full h1.1 h1.2)
    generalize listF (merF a b) = m at e hr ⊢
    by_cases h2 : 48 < m.length
    · rw [if_pos h2] at e
      rw [e] at h
      exact absurd (h : (2 : Int) = 0) (by omega)
    · rw [if_neg h2] at e
      rw [e]
      exact ⟨h1.1, h1.2, rfl, hr (by omega)⟩
  · unfold merS at h
    rw [if_pos h1] at h
    exact absurd (h : (70 : Int) = 0) (by omega)
theorem merS_no {a b : List Ch} (h : (merS a b).2 ≠ 0) : (merS a b).1 = [] := by
  unfold merS at h ⊢
  by_cases h1 : right a ∧ right b
  · rw [if_neg (fun hh => hh h1)] at h ⊢
    by_cases h2 : 48 < (listF (merF a b)).length
    · rw [if_pos h2]
    · rw [if_neg h2] at h
      exact absurd rfl h
  · rw [if_pos h1]
/-- Three: it says nothing which two are merged first. -/
theorem mer_three {a b c : List Ch} (h1 : (merS a b).2 = 0) (h2 : (merS b c).2 = 0) : merS (merS a b).1 c = merS a (merS b c).1 := by
  obtain ⟨ra, rb, e1, r1⟩ := merS_ok h1
  obtain ⟨_, rc, e2, r2⟩ := merS_ok h2
  have hF : merF (merS a b).1 c = merF a (merS b c).1 := by
    funext k
    unfold merF
    rw [allF_over _ c, allF_over (allF none0 a) (merS b c).1, e1, e2, allF_listF (mer_small ra rb), allF_listF (mer_small rb rc)]
    show (allF none0 c k).or (allF (allF none0 a) b k) = (allF (allF none0 b) c k).or (allF none0 a k)
    rw [allF_over (allF none0 a) b, allF_over (allF none0 b) c, Option.or_assoc]
  rw [merS_of r1 rc, merS_of ra r2, hF]
/-- Itself. -/
theorem mer_self {a : List Ch} (h : right a) : merS a a = (a, 0) := by
  have hF : merF a a = allF none0 a := by
    funext k
    unfold merF
    rw [allF_over]
    cases allF none0 a k <;> rfl
  unfold merS
  rw [if_neg (fun hh => hh ⟨h, h⟩), hF, listF_allF h.1, if_neg (by have := h.2; omega)]
end Go.Proofs.Ytofiblkeihchmaa.TxnS
