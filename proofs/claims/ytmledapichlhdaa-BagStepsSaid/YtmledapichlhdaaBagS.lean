/- A bag of messages, in plain words. -/
import Derived.Test.YtmledapichlhdaaMaps
import Derived.Lib.Bytealg
import Derived.Shelf.SlSortCmp.Insertion
set_option linter.unusedVariables false
set_option linter.unusedSimpArgs false
namespace Go.Proofs.Ytmledapichlhdaa.BagS
instance : LawfulBEq ByteArray where
  rfl := by intro a; show (a.data == a.data) = true; simp
  eq_of_beq := by intro a b h; have h : (a.data == b.data) = true := h; exact ByteArray.ext (eq_of_beq h)
/-- From, to, the text. -/
abbrev Msg := Int × Int × ByteArray
def cmpI (a b : Int) : Int := if a < b then -1 else if b < a then 1 else 0
def cmpB (a b : ByteArray) : Int := Go.Lib.compareBytes a.data.toList b.data.toList
def cmpM (a b : Msg) : Int := if cmpI a.2.1 b.2.1 ≠ 0 then cmpI a.2.1 b.2.1 else if cmpI a.1 b.1 ≠ 0 then cmpI a.1 b.1 else cmpB a.2.2 b.2.2
def lt (a b : Msg) : Bool := decide (cmpM a b < 0)
theorem cmpL_self : ∀ l : List UInt8, Go.Lib.compareBytes l l = 0
  | [] => rfl
  | a :: l => by
    unfold Go.Lib.compareBytes
    rw [if_neg (UInt8.lt_irrefl a), if_neg (UInt8.lt_irrefl a)]
    exact cmpL_self l
theorem cmpL_eq : ∀ a b : List UInt8, Go.Lib.compareBytes a b = 0 → a = b
  | [], [], _ => rfl
  | [], _ :: _, h => by simp [Go.Lib.compareBytes] at h
  | _ :: _, [], h => by simp [Go.Lib.compareBytes] at h
  | a :: xs, b :: ys, h => by
    unfold Go.Lib.compareBytes at h
    split at h
    · cases h
    · split at h
      · cases h
      · rename_i h1 h2
        have : a = b := UInt8.le_antisymm (UInt8.not_lt.1 h2) (UInt8.not_lt.1 h1)
        rw [this, cmpL_eq xs ys h]
theorem cmpL_neg : ∀ a b : List UInt8, Go.Lib.compareBytes b a = - Go.Lib.compareBytes a b
  | [], [] => rfl
  | [], _ :: _ => by simp [Go.Lib.compareBytes]
  | _ :: _, [] => by simp [Go.Lib.compareBytes]
  | a :: xs, b :: ys => by
    unfold Go.Lib.compareBytes
    by_cases h1 : a < b
    · have h2 : ¬ b < a := UInt8.lt_asymm h1
      rw [if_neg h2, if_pos h1, if_pos h1]; rfl
    · by_cases h2 : b < a
      · rw [if_pos h2, if_neg h1, if_pos h2]
      · rw [if_neg h2, if_neg h1, if_neg h1, if_neg h2]; exact cmpL_neg xs ys
theorem cmpL_trans : ∀ a b c : List UInt8, Go.Lib.compareBytes a b < 0 → Go.Lib.compareBytes b c < 0 → Go.Lib.compareBytes a c < 0
  | [], [], c, h, _ => by simp [Go.Lib.compareBytes] at h
  | [], _ :: _, [], _, h => by simp [Go.Lib.compareBytes] at h
  | [], _ :: _, _ :: _, _, _ => by simp [Go.Lib.compareBytes]
  | _ :: _, [], _, h, _ => by simp [Go.Lib.compareBytes] at h
  | _ :: _, _ :: _, [], _, h => by simp [Go.Lib.compareBytes] at h
  | a :: xs, b :: ys, c :: zs, h1, h2 => by
    unfold Go.Lib.compareBytes at h1 h2 ⊢
    by_cases x1 : a < b
    · by_cases x2 : b < c
      · rw [if_pos (UInt8.lt_trans x1 x2)]; omega
      · rw [if_neg x2] at h2
        by_cases x3 : c < b
        · rw [if_pos x3] at h2; omega
        · have : b = c := UInt8.le_antisymm (UInt8.not_lt.1 x3) (UInt8.not_lt.1 x2)
          rw [if_pos (this ▸ x1)]; omega
    · rw [if_neg x1] at h1
      by_cases x2 : b < a
      · rw [if_pos x2] at h1; omega
      · rw [if_neg x2] at h1
        have e : a = b := UInt8.le_antisymm (UInt8.not_lt.1 x2) (UInt8.not_lt.1 x1)
        subst e
        by_cases x3 : a < c
        · rw [if_pos x3]; omega
        · rw [if_neg x3] at h2 ⊢
          by_cases x4 : c < a
          · rw [if_pos x4] at h2; omega
          · rw [if_neg x4] at h2 ⊢
            exact cmpL_trans xs ys zs h1 h2
theorem cmpB_eq {a b : ByteArray} (h : cmpB a b = 0) : a = b := ByteArray.ext (Array.toList_inj.mp (cmpL_eq _ _ h))
theorem cmpI_cases (a b : Int) : (a < b ∧ cmpI a b = -1) ∨ (a = b ∧ cmpI a b = 0) ∨ (b < a ∧ cmpI a b = 1) := by
  unfold cmpI
  rcases Int.lt_trichotomy a b with h | h | h
  · exact .inl ⟨h, if_pos h⟩
  · exact .inr (.inl ⟨h, by rw [if_neg (by omega), if_neg (by omega)]⟩)
  · exact .inr (.inr ⟨h, by rw [if_neg (by omega), if_pos h]⟩)
theorem lt_iff (a b : Msg) : lt a b = true ↔ a.2.1 < b.2.1 ∨ (a.2.1 = b.2.1 ∧ (a.1 < b.1 ∨ (a.1 = b.1 ∧ cmpB a.2.2 b.2.2 < 0))) := by
  unfold lt cmpM
  rw [decide_eq_true_eq]
  rcases cmpI_cases a.2.1 b.2.1 with ⟨h, e⟩ | ⟨h, e⟩ | ⟨h, e⟩
  · rw [e, if_pos (by omega)]; omega
  · rw [e, if_neg (by omega)]
    rcases cmpI_cases a.1 b.1 with ⟨h2, e2⟩ | ⟨h2, e2⟩ | ⟨h2, e2⟩
    · rw [e2, if_pos (by omega)]; omega
    · rw [e2, if_neg (by omega)]; omega
    · rw [e2, if_pos (by omega)]; omega
  · rw [e, if_pos (by omega)]; omega
theorem lt_irrefl (a : Msg) : lt a a = false := by
  cases h : lt a a with
  | false => rfl
  | true =>
    rw [lt_iff] at h
    have : cmpB a.2.2 a.2.2 = 0 := cmpL_self _
    omega
theorem lt_trans {a b c : Msg} (h1 : lt a b = true) (h2 : lt b c = true) : lt a c = true := by
  rw [lt_iff] at *
  have := cmpL_trans a.2.2.data.toList b.2.2.data.toList c.2.2.data.toList
  unfold cmpB at *
  omega
theorem lt_tri {a b : Msg} (h1 : lt a b = false) (h2 : lt b a = false) : a = b := by
  have n1 : ¬ (lt a b = true) := by rw [h1]; simp
  have n2 : ¬ (lt b a = true) := by rw [h2]; simp
  rw [lt_iff] at n1 n2
  have hn := cmpL_neg a.2.2.data.toList b.2.2.data.toList
  have hz : cmpB a.2.2 b.2.2 = 0 := by unfold cmpB at *; omega
  have := cmpB_eq hz
  obtain ⟨a1, a2, a3⟩ := a
  obtain ⟨b1, b2, b3⟩ := b
  dsimp only at *
  subst this
  have : a2 = b2 := by omega
  subst this
  have : a1 = b1 := by omega
  subst this
  rfl
theorem lt_asymm {a b : Msg} (h : lt a b = true) : lt b a = false := by
  cases h2 : lt b a with
  | false => rfl
  | true => have := lt_trans h h2; rw [lt_irrefl] at this; cases this
theorem le_trans {a b c : Msg} (h1 : lt b a = false) (h2 : lt c b = false) : lt c a = false := by
  cases h : lt c a with
  | false => rfl
  | true =>
    cases h3 : lt a b with
    | true => have := lt_trans h h3; rw [h2] at this; cases this
    | false => have := lt_tri h3 h1; subst this; rw [h2] at h; cases h
theorem ltOf_lt : Go.Proofs.ltOf cmpM = lt := rfl
theorem swo : Go.Sort.SWO (Go.Proofs.ltOf cmpM) where
  irrefl x := by rw [ltOf_lt]; exact lt_irrefl x
  trans x y z h1 h2 := by rw [ltOf_lt] at *; exact lt_trans h1 h2
  ntrans x y z h1 h2 := by rw [ltOf_lt] at *; exact le_trans h2 h1
/-- In the order of the list, one and the same beside each other. -/
def Sorted (L : List Msg) : Prop := L.Pairwise fun a b => lt b a = false
def ins : List Msg → Msg → List Msg
  | [], m => [m]
  | x :: L, m => if lt m x = true then m :: x :: L else x :: ins L m
theorem ins_perm : ∀ (L : List Msg) (m : Msg), (ins L m).Perm (m :: L)
  | [], m => List.Perm.refl _
  | x :: L, m => by
    unfold ins
    split
    · exact List.Perm.refl _
    · exact ((ins_perm L m).cons x).trans (List.Perm.swap m x L)
theorem ins_sorted : ∀ {L : List Msg} (m : Msg), Sorted L → Sorted (ins L m)
  | [], m, _ => List.pairwise_singleton _ _
  | x :: L, m, h => by
    unfold Sorted at *
    rw [List.pairwise_cons] at h
    unfold ins
    split
    · rename_i h1
      rw [List.pairwise_cons, List.pairwise_cons]
      refine ⟨fun y hy => ?_, h⟩
      rcases List.mem_cons.1 hy with rfl | hy
      · exact lt_asymm h1
      · exact le_trans (lt_asymm h1) (h.1 y hy)
    · rename_i h1
      rw [List.pairwise_cons]
      refine ⟨fun y hy => ?_, ins_sorted m h.2⟩
      rcases List.mem_cons.1 ((ins_perm L m).mem_iff.1 hy) with rfl | hy
      · simpa using h1
      · exact h.1 y hy
theorem ins_len (L : List Msg) (m : Msg) : (ins L m).length = L.length + 1 := by have := (ins_perm L m).length_eq; simpa using this
theorem ins_count (L : List Msg) (m x : Msg) : (ins L m).count x = L.count x + if m = x then 1 else 0 := by
  rw [(ins_perm L m).count_eq, List.count_cons]
  congr 1
  by_cases h : m = x <;> simp [h]
theorem erase_sorted {L : List Msg} (m : Msg) (h : Sorted L) : Sorted (L.erase m) := h.sublist (List.erase_sublist ..)
theorem sorted_eq {A B : List Msg} (hp : A.Perm B) (h1 : Sorted A) (h2 : Sorted B) : A = B :=
  List.Perm.eq_of_pairwise (le := fun a b => lt b a = false) (fun a b _ _ h1 h2 => lt_tri h2 h1) h1 h2 hp
theorem ins_comm {L : List Msg} (h : Sorted L) (a b : Msg) : ins (ins L a) b = ins (ins L b) a :=
  sorted_eq (((ins_perm _ b).trans ((ins_perm L a).cons b)).trans ((List.Perm.swap a b L).trans ((ins_perm _ a).trans ((ins_perm L b).cons a)).symm)) (ins_sorted b (ins_sorted a h)) (ins_sorted a (ins_sorted b h))
/-- Each once. -/
def ustep (o : List Msg) (x : Msg) : List Msg := if o.getLast? = some x then o else o ++ [x]
def uniq (L : List Msg) : List Msg := L.foldl ustep []
theorem ustep_last (o : List Msg) (x : Msg) : (ustep o x).getLast? = some x := by
  unfold ustep
  split
  · assumption
  · simp
/-- What the first ones give. -/
structure UInv (P o : List Msg) : Prop where
  last : o.getLast? = P.getLast?
  mem : ∀ x, x ∈ o ↔ x ∈ P
  rs : o.Pairwise fun a b => lt a b = true
theorem ustep_inv {P o : List Msg} {x : Msg} (h : UInv P o) (hs : Sorted (P ++ [x])) : UInv (P ++ [x]) (ustep o x) := by
  refine ⟨by rw [ustep_last]; simp, fun y => ?_, ?_⟩
  · unfold ustep
    split
    · rename_i hl
      rw [h.mem, List.mem_append, List.mem_singleton]
      constructor
      · exact .inl
      · rintro (hy | rfl)
        · exact hy
        · rw [← h.mem]; exact List.mem_of_getLast? hl
    · rw [List.mem_append, List.mem_append, h.mem]
  · unfold ustep
    split
    · exact h.rs
    · rename_i hl
      rw [List.pairwise_append]
      refine ⟨h.rs, by simp, fun a ha b hb => ?_⟩
      obtain rfl : b = x := by simpa using hb
      have ha' := (h.mem a).1 ha
      unfold Sorted at hs
      rw [List.pairwise_append] at hs
      have hle := hs.2.2 a ha' b (by simp)
      cases hlt : lt a b with
      | true => rfl
      | false =>
        exfalso
        have e := lt_tri hlt hle
        subst e
        apply hl
        -- the last one is a itself: it is the greatest
        obtain ⟨z, hz⟩ : ∃ z, o.getLast? = some z := by
          cases hz : o.getLast? with
          | some z => exact ⟨z, rfl⟩
          | none => rw [List.getLast?_eq_none_iff] at hz; subst hz; simp at ha
        have hzP : z ∈ P := (h.mem z).1 (List.mem_of_getLast? hz)
        have h1 := hs.2.2 z hzP a (by simp)
        obtain ⟨o', rfl⟩ : ∃ o', o = o' ++ [z] := by
          have hne : o ≠ [] := by rintro rfl; simp at ha
          refine ⟨o.dropLast, ?_⟩
          rw [List.getLast?_eq_some_getLast hne] at hz
          rw [← Option.some.inj hz]
          exact (List.dropLast_concat_getLast hne).symm
        rcases List.mem_append.1 ha with ha | ha
        · have h2 := h.rs
          rw [List.pairwise_append] at h2
          have h3 := h2.2.2 a ha z (by simp)
          rw [h3] at h1
          cases h1
        · obtain rfl : a = z := by simpa using ha
          exact hz
theorem ufold_inv : ∀ (Q P o : List Msg), UInv P o → Sorted (P ++ Q) → UInv (P ++ Q) (Q.foldl ustep o)
  | [], P, o, h, _ => by rw [List.append_nil]; exact h
  | x :: Q, P, o, h, hs => by
    have e : P ++ x :: Q = (P ++ [x]) ++ Q := by simp
    rw [e] at hs ⊢
    have h1 : Sorted (P ++ [x]) := (List.pairwise_append.1 hs).1
    exact ufold_inv Q _ _ (ustep_inv h h1) hs
theorem uniq_inv {L : List Msg} (h : Sorted L) : UInv L (uniq L) := by
  have := ufold_inv L [] [] ⟨rfl, fun x => Iff.rfl, List.Pairwise.nil⟩ h
  rwa [List.nil_append] at this
theorem uniq_len : ∀ (L o : List Msg), (L.foldl ustep o).length ≤ o.length + L.length
  | [], o => by simp
  | x :: L, o => by
    rw [List.foldl_cons, List.length_cons]
    have h1 := uniq_len L (ustep o x)
    have h2 : (ustep o x).length ≤ o.length + 1 := by unfold ustep; split <;> simp
    omega
theorem uniq_le (L : List Msg) : (uniq L).length ≤ L.length := by have := uniq_len L []; simpa [uniq] using this
theorem rs_nodup {o : List Msg} (h : o.Pairwise fun a b => lt a b = true) : o.Nodup := h.imp fun h e => by subst e; rw [lt_irrefl] at h; cases h
theorem uniq_perm {L K : List Msg} (h : Sorted L) (hn : K.Nodup) (hm : ∀ x, x ∈ K ↔ x ∈ L) : (uniq L).Perm K :=
  (List.perm_ext_iff_of_nodup (rs_nodup (uniq_inv h).rs) hn).2 fun x => by rw [(uniq_inv h).mem, hm]
/-- The keys, sorted. -/
theorem uniq_sort {L K : List Msg} (h : Sorted L) (hn : K.Nodup) (hm : ∀ x, x ∈ K ↔ x ∈ L) : K.mergeSort (fun x y => !Go.Proofs.ltOf cmpM y x) = uniq L := by
  have tr : ∀ a b c : Msg, (!lt b a) = true → (!lt c b) = true → (!lt c a) = true := fun a b c h1 h2 => by simp only [Bool.not_eq_true'] at *; exact le_trans h1 h2
  have tt : ∀ a b : Msg, ((!lt b a) || (!lt a b)) = true := fun a b => by
    cases h1 : lt b a with
    | false => rfl
    | true => rw [lt_asymm h1]; rfl
  rw [ltOf_lt]
  refine List.Perm.eq_of_pairwise (le := fun a b => (!lt b a) = true) (fun a b _ _ h1 h2 => ?_) (List.pairwise_mergeSort tr tt K) ((uniq_inv h).rs.imp fun {a b} h => by rw [lt_asymm h]; rfl) ((List.mergeSort_perm _ _).trans (uniq_perm h hn hm).symm)
  simp only [Bool.not_eq_true'] at h1 h2
  exact lt_tri h2 h1
/-- What a bag does. -/
def addS (L : List Msg) (m : Msg) : List Msg × Int := if 1024 ≤ L.length then (L, 5) else (ins L m, 0)
def badN (n i : Int) : Prop := i < 0 ∨ n ≤ i
instance (n i : Int) : Decidable (badN n i) := by unfold badN; infer_instance
def putS (n : Int) (L : List Msg) (m : Msg) : List Msg × Int := if badN n m.1 ∨ badN n m.2.1 then (L, 1) else if 65535 < m.2.2.size then (L, 2) else addS L m
def hasI (L : List Msg) (i : Int) : Prop := 0 ≤ i ∧ i < (uniq L).length
instance (L : List Msg) (i : Int) : Decidable (hasI L i) := by unfold hasI; infer_instance
def z0 : Msg := (0, 0, ⟨#[]⟩)
def atU (L : List Msg) (i : Int) : Msg := (uniq L).getD i.toNat z0
def delS (L : List Msg) (i : Int) : List Msg × Msg × Int := if hasI L i then (L.erase (atU L i), atU L i, 0) else (L, z0, 6)
def twiceS (L : List Msg) (i : Int) : List Msg × Int := if hasI L i then addS L (atU L i) else (L, 6)
structure Ok (L : List Msg) : Prop where
  srt : Sorted L
  len : L.length ≤ 1024
theorem Ok.nil : Ok [] := ⟨List.Pairwise.nil, by simp⟩
theorem Ok.add {L : List Msg} (h : Ok L) (m : Msg) : Ok (addS L m).1 := by
  unfold addS
  split
  · exact h
  · exact ⟨ins_sorted m h.srt, by rw [ins_len]; omega⟩
theorem Ok.put {L : List Msg} (h : Ok L) (n : Int) (m : Msg) : Ok (putS n L m).1 := by
  unfold putS
  split
  · exact h
  · split
    · exact h
    · exact h.add m
theorem Ok.del {L : List Msg} (h : Ok L) (i : Int) : Ok (delS L i).1 := by
  unfold delS
  split
  · exact ⟨erase_sorted _ h.srt, Nat.le_trans (List.length_erase_le ..) h.len⟩
  · exact h
theorem Ok.twice {L : List Msg} (h : Ok L) (i : Int) : Ok (twiceS L i).1 := by
  unfold twiceS
  split
  · exact h.add _
  · exact h
theorem atU_mem {L : List Msg} {i : Int} (hs : Sorted L) (h : hasI L i) : atU L i ∈ L := by
  have hi : i.toNat < (uniq L).length := by have := h.1; have := h.2; omega
  rw [← (uniq_inv hs).mem]
  unfold atU
  rw [List.getD_eq_getElem?_getD, List.getElem?_eq_getElem hi]
  exact List.getElem_mem hi
end Go.Proofs.Ytmledapichlhdaa.BagS
