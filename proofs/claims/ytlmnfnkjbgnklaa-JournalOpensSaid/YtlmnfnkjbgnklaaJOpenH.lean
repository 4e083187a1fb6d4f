/- What a journal's region says, and what is laid in it: plain, no program in sight. A journal's header, read: headed. -/
import Derived.Test.YtlmnfnkjbgnklaaJrnlSpec
import Derived.Test.YtlmnfnkjbgnklaaTxnBk
import Derived.Test.YtlmnfnkjbgnklaaJrnlR
section
/- What a journal's region says, and what is laid in it: plain, no program in sight. -/
set_option linter.unusedVariables false
set_option linter.unusedSimpArgs false
namespace Go.Proofs.Ytlmnfnkjbgnklaa.JS
open Go.RowKit Go.Proofs.YtlmnfnkjbgnklaaW.PrintWords Go.Proofs.Ytlmnfnkjbgnklaa.Spec Go.Proofs.Ytlmnfnkjbgnklaa.TxnS Go.Proofs.Ytlmnfnkjbgnklaa.C
def aitch : ByteArray := ⟨#[72]⟩
/-- What a header's numbers say. -/
def hdJ (r : ByteArray) (n : Int) : Jr × Bool :=
  let a := readS r 0 2
  let f := readS a.2.2.1 a.2.2.2 8
  let x := readS f.2.2.1 f.2.2.2 8
  (⟨n - 1, a.1, f.1, x.1 - f.1, []⟩, decide (endS x.2.2.1 x.2.2.2 = 0 ∧ a.1 < n - 1 ∧ 1 ≤ f.1 ∧ f.1 ≤ 1099511627776 ∧ f.1 ≤ x.1 ∧ x.1 - f.1 ≤ n - 1))
/-- The journal that a header says. -/
def opJ (b : ByteArray) (n : Int) : Option Jr :=
  if (unblockS b).2 ≠ 0 ∨ (cutS (unblockS b).1 aitch).2 = false then none
  else if (hdJ (cutS (unblockS b).1 aitch).1 n).2 = true then some (hdJ (cutS (unblockS b).1 aitch).1 n).1 else none
/-- The ring, from its tail on. -/
def ringL (reg : List ByteArray) (m T : Nat) : List ByteArray := (List.range m).map fun i => (reg[(T + i) % m + 1]?).getD ⟨#[]⟩
/-- The transactions with which a row of blocks begins. -/
def loopJ : Nat → Int → List ByteArray → Option (List (List Ch))
  | 0, _, _ => some []
  | k + 1, q, bs => if (decS bs).2.2.2 ≠ 0 ∨ (decS bs).1 ≠ q then none else (loopJ k (q + 1) (bs.drop ((decS bs).2.1.length + 1))).map fun r => (decS bs).2.1 :: r
def openJ (reg : List ByteArray) : Option (Jr × List (List Ch)) :=
  if reg.length < 8 ∨ 256 < reg.length then none
  else match opJ ((reg[0]?).getD ⟨#[]⟩) reg.length with
    | none => none
    | some J => match loopJ J.sealed.toNat J.first (ringL reg (reg.length - 1) J.tail.toNat) with
      | none => none
      | some L => some ({ J with sizes := L.map fun l => l.length + 1 }, L)
/-- All blocks of transactions. -/
def flatB : Int → List (List Ch) → List ByteArray
  | _, [] => []
  | q, l :: hs => blocksL q l ++ flatB (q + 1) hs
theorem blocksL_len (q : Int) (l : List Ch) : (blocksL q l).length = l.length + 1 := by simp [blocksL]
theorem flatB_len : ∀ (q : Int) (hs : List (List Ch)), (flatB q hs).length = (hs.map fun l => l.length + 1).sum
  | _, [] => rfl
  | q, l :: hs => by
    rw [flatB, List.length_append, flatB_len (q + 1) hs, blocksL_len]
    rfl
theorem flatB_append : ∀ (q : Int) (a b : List (List Ch)), flatB q (a ++ b) = flatB q a ++ flatB (q + a.length) b
  | q, [], b => by simp [flatB]
  | q, l :: a, b => by
    rw [List.cons_append, flatB, flatB_append (q + 1) a b, flatB, List.append_assoc, List.length_cons]
    congr 3
    omega
theorem decS_len (bs : List ByteArray) (h : (decS bs).2.2.2 = 0) : (decS bs).2.2.1 = ((decS bs).2.1.length : Int) + 1 ∧ right (decS bs).2.1 ∧ (decS bs).2.1.length + 1 ≤ bs.length := by
  cases bs with
  | nil => cases h
  | cons b r =>
    rw [dec_cons] at h ⊢
    split
    · rename_i h1; rw [if_pos h1] at h; cases h
    · rename_i h1
      rw [if_neg h1] at h
      split
      · rename_i h2; rw [if_pos h2] at h; cases h
      · rename_i h2
        rw [if_neg h2] at h
        split
        · rename_i h3; rw [if_pos h3] at h; cases h
        · rename_i h3
          have h4 : right (newL (b :: r) (headedS b).2.1) := Decidable.not_not.1 fun e => h3 (.inl e)
          have h5 : (newL (b :: r) (headedS b).2.1).length = (headedS b).2.1.length := by unfold newL; rw [setK_length]
          refine ⟨?_, h4, ?_⟩
          · show ((headedS b).2.1.length : Int) + 1 = _
            rw [h5]
          · show (newL (b :: r) (headedS b).2.1).length + 1 ≤ _
            rw [h5]
            omega
theorem loopJ_back : ∀ (hs : List (List Ch)) (q : Int) (more : List ByteArray), 1 ≤ q → q + hs.length ≤ 1099511627777 → (∀ l ∈ hs, right l) → loopJ hs.length q (flatB q hs ++ more) = some hs
  | [], _, _, _, _, _ => rfl
  | l :: hs, q, more, h1, h2, hr => by
    rw [List.length_cons] at h2
    have hd := dec_enc (seq := q) (l := l) h1 (by omega) (hr l (List.mem_cons_self ..)) (flatB (q + 1) hs ++ more)
    have ih := loopJ_back hs (q + 1) more (by omega) (by omega) (fun x hx => hr x (List.mem_cons_of_mem _ hx))
    rw [List.length_cons, loopJ, flatB, List.append_assoc, hd]
    dsimp only
    rw [if_neg (by simp)]
    have e : (blocksL q l ++ (flatB (q + 1) hs ++ more)).drop (l.length + 1) = flatB (q + 1) hs ++ more := by
      rw [List.drop_append_of_le_length (by rw [blocksL_len]; exact Nat.le_refl _), List.drop_of_length_le (by rw [blocksL_len]; exact Nat.le_refl _), List.nil_append]
    rw [e, ih]
    rfl
/-- The first u of the blocks are laid. -/
def Laid (m T : Nat) (reg fl : List ByteArray) (u : Nat) : Prop := ∀ o, o < u → reg[(T + o) % m + 1]? = fl[o]?
theorem pos_ne {m T a b : Nat} (ha : a < m) (hb : b < m) (h : a ≠ b) : (T + a) % m ≠ (T + b) % m := by
  intro e
  rcases Nat.lt_or_ge a b with hl | hl
  · have h1 : (T + b - (T + a)) % m = 0 := Nat.sub_mod_eq_zero_of_mod_eq e.symm
    rw [show T + b - (T + a) = b - a from by omega, Nat.mod_eq_of_lt (by omega)] at h1
    omega
  · have h1 : (T + a - (T + b)) % m = 0 := Nat.sub_mod_eq_zero_of_mod_eq e
    rw [show T + a - (T + b) = a - b from by omega, Nat.mod_eq_of_lt (by omega)] at h1
    omega
/-- What a region has of a journal. -/
structure PI (J : Jr) (hs : List (List Ch)) (reg : List ByteArray) (u : Nat) : Prop where
  ok : JW J
  sz : J.sizes = hs.map fun l => l.length + 1
  len : reg.length = J.ring.toNat + 1
  hd : reg[0]? = some (headJ J)
  all : ∀ b ∈ reg, b.size = 128
  rt : ∀ l ∈ hs, right l
  up : J.first + hs.length ≤ 1000
  us : (J.sizes.take J.sealed.toNat).sum ≤ u
  ul : u ≤ J.sizes.sum
  laid : Laid J.ring.toNat J.tail.toNat reg (flatB J.first hs) u
theorem headJ_size (J : Jr) : (headJ J).size = 128 := blockS_size _ (by rw [headTx_size]; omega)
theorem mem_set {reg : List ByteArray} {i : Nat} {b x : ByteArray} (h : x ∈ reg.set i b) : x = b ∨ x ∈ reg := by
  rcases List.mem_or_eq_of_mem_set h with h | h
  · exact .inr h
  · exact .inl h
section
variable {J : Jr} {hs : List (List Ch)} {reg : List ByteArray} {u : Nat}
theorem PI.slen (h : PI J hs reg u) : J.sizes.length = hs.length := by rw [h.sz]; simp
theorem PI.sring (h : PI J hs reg u) : J.sizes.sum ≤ J.ring.toNat := by have := h.ok.su; omega
/-- Whatever is laid where no block stands. -/
theorem PI.junk (h : PI J hs reg u) {o : Nat} {b : ByteArray} (h1 : u ≤ o) (h2 : o < J.ring.toNat) (hb : b.size = 128) : PI J hs (reg.set ((J.tail.toNat + o) % J.ring.toNat + 1) b) u := by
  refine ⟨h.ok, h.sz, by rw [List.length_set]; exact h.len, ?_, fun x hx => ?_, h.rt, h.up, h.us, h.ul, fun a ha => ?_⟩
  · rw [List.getElem?_set_ne (by omega)]; exact h.hd
  · rcases mem_set hx with rfl | hx
    · exact hb
    · exact h.all x hx
  · have := h.sring
    have := h.ul
    have hne := pos_ne (T := J.tail.toNat) h2 (show a < J.ring.toNat by omega) (by omega)
    rw [List.getElem?_set_ne (fun e => hne (by omega))]
    exact h.laid a ha
/-- The next block is laid. -/
theorem PI.set (h : PI J hs reg u) {b : ByteArray} (h2 : (flatB J.first hs)[u]? = some b) (h3 : u < J.sizes.sum) (hb : b.size = 128) : PI J hs (reg.set ((J.tail.toNat + u) % J.ring.toNat + 1) b) (u + 1) := by
  have hj := h.junk (o := u) (b := b) (Nat.le_refl _) (by have := h.sring; omega) hb
  refine ⟨h.ok, h.sz, hj.len, hj.hd, hj.all, h.rt, h.up, by have := h.us; omega, by omega, fun a ha => ?_⟩
  by_cases e : a = u
  · subst e
    rw [h2, List.getElem?_set_self]
    rw [h.len]
    have := Nat.mod_lt (J.tail.toNat + a) (show 0 < J.ring.toNat by have := h.ok.r7; omega)
    omega
  · exact hj.laid a (by omega)
theorem PI.seal (h : PI J hs reg u) (hu : u = J.sizes.sum) : PI (sealJ J) hs (reg.set 0 (headJ (sealJ J))) u := by
  refine ⟨sealJ_ok h.ok, h.sz, by rw [List.length_set]; exact h.len, ?_, fun x hx => ?_, h.rt, h.up, ?_, h.ul, fun a ha => ?_⟩
  · rw [List.getElem?_set_self (by rw [h.len]; omega)]
  · rcases mem_set hx with rfl | hx
    · exact headJ_size _
    · exact h.all x hx
  · rw [hu]; exact sum_take_le _ _
  · rw [List.getElem?_set_ne (by omega)]
    exact h.laid a ha
theorem map_take_sum (hs : List (List Ch)) (k : Nat) : ((hs.map fun l => l.length + 1).take k).sum = ((hs.take k).map fun l => l.length + 1).sum := by rw [List.map_take]
theorem PI.done (h : PI J hs reg u) (hu : u = J.sizes.sum) (k : Nat) (hk : (k : Int) ≤ J.sealed) : PI (doneJ J k) (hs.drop k) (reg.set 0 (headJ (doneJ J k))) (u - (J.sizes.take k).sum) ∧ u - (J.sizes.take k).sum = (doneJ J k).sizes.sum := by
  have hok := doneJ_ok h.ok k hk
  have hs2 : (doneJ J k).sizes.sum = J.sizes.sum - (J.sizes.take k).sum := sum_drop _ _
  have hkl : k ≤ hs.length := by have := h.ok.sn; rw [h.slen] at this; omega
  have hfl : flatB J.first hs = flatB J.first (hs.take k) ++ flatB (J.first + k) (hs.drop k) := by
    have := flatB_append J.first (hs.take k) (hs.drop k)
    rw [List.take_append_drop, List.length_take, Nat.min_eq_left hkl] at this
    exact this
  have hfk : (flatB J.first (hs.take k)).length = (J.sizes.take k).sum := by rw [flatB_len, h.sz, map_take_sum]
  have hle := sum_take_le J.sizes k
  refine ⟨⟨hok, ?_, by rw [List.length_set]; exact h.len, ?_, fun x hx => ?_, fun l hl => h.rt l (List.mem_of_mem_drop hl), ?_, ?_, ?_, fun a ha => ?_⟩, by rw [hs2, hu]⟩
  · show J.sizes.drop k = _
    rw [h.sz, List.map_drop]
  · rw [List.getElem?_set_self (by rw [h.len]; omega)]
  · rcases mem_set hx with rfl | hx
    · exact headJ_size _
    · exact h.all x hx
  · show J.first + k + ((hs.drop k).length : Int) ≤ 1000
    rw [List.length_drop]
    have := h.up
    omega
  · rw [hu, ← hs2]; exact sum_take_le _ _
  · rw [hs2, hu]; exact Nat.le_refl _
  · rw [List.getElem?_set_ne (by omega)]
    have h1 := h.laid ((J.sizes.take k).sum + a) (by omega)
    rw [hfl, List.getElem?_append_right (by rw [hfk]; omega), hfk, Nat.add_sub_cancel_left] at h1
    show reg[(((J.tail + ((J.sizes.take k).sum : Int)) % J.ring).toNat + a) % J.ring.toNat + 1]? = (flatB (J.first + k) (hs.drop k))[a]?
    rw [← h1]
    congr 2
    have e1 : ((J.tail + ((J.sizes.take k).sum : Int)) % J.ring).toNat = (J.tail.toNat + (J.sizes.take k).sum) % J.ring.toNat := by
      have ht := h.ok.t0
      have hr := h.ok.r7
      generalize (J.sizes.take k).sum = s
      obtain ⟨t, ht'⟩ : ∃ t : Nat, J.tail = t := ⟨J.tail.toNat, by omega⟩
      obtain ⟨r, hr'⟩ : ∃ r : Nat, J.ring = r := ⟨J.ring.toNat, by omega⟩
      rw [ht', hr', Int.toNat_natCast, Int.toNat_natCast]
      exact_mod_cast rfl
    rw [e1, Nat.mod_add_mod, Nat.add_assoc]
theorem PI.push (h : PI J hs reg u) (l : List Ch) (hr : right l) (hm : room J l.length) (hu : J.first + hs.length + 1 ≤ 1000) : PI (pushJ J (l.length + 1)) (hs ++ [l]) reg u := by
  have hsn : J.sealed.toNat ≤ J.sizes.length := by have := h.ok.sn; omega
  refine ⟨pushJ_ok h.ok l.length hm, ?_, h.len, h.hd, h.all, fun x hx => ?_, ?_, ?_, ?_, fun a ha => ?_⟩
  · show J.sizes ++ [l.length + 1] = _
    rw [h.sz]; simp
  · rcases List.mem_append.1 hx with hx | hx
    · exact h.rt x hx
    · obtain rfl : x = l := by simpa using hx
      exact hr
  · show J.first + ((hs ++ [l]).length : Int) ≤ 1000
    rw [List.length_append, List.length_singleton]; omega
  · show ((J.sizes ++ [l.length + 1]).take J.sealed.toNat).sum ≤ u
    rw [List.take_append_of_le_length hsn]
    exact h.us
  · show u ≤ (J.sizes ++ [l.length + 1]).sum
    have := h.ul
    simp
    omega
  · show reg[(J.tail.toNat + a) % J.ring.toNat + 1]? = (flatB J.first (hs ++ [l]))[a]?
    rw [flatB_append, List.getElem?_append_left (by rw [flatB_len, ← h.sz]; have := h.ul; omega)]
    exact h.laid a ha
/-- The blocks of the last one. -/
theorem PI.last (h : PI J hs reg u) (l : List Ch) (i : Nat) (hi : i < l.length + 1) : (flatB J.first (hs ++ [l]))[J.sizes.sum + i]? = (blocksL (J.first + (J.sizes.length : Int)) l)[i]? := by
  rw [flatB_append, List.getElem?_append_right (by rw [flatB_len, ← h.sz]; omega), flatB_len, ← h.sz, Nat.add_sub_cancel_left, h.slen, flatB, flatB, List.append_nil]
theorem newJ_pi (n : Nat) (h1 : 8 ≤ n) (h2 : n ≤ 256) (z : ByteArray) (hz : z.size = 128) : PI (newJ n) [] ((List.replicate n z).set 0 (headJ (newJ n))) 0 := by
  refine ⟨newJ_ok (by omega) (by omega), rfl, ?_, ?_, fun x hx => ?_, fun l hl => by simp at hl, by simp [newJ], by simp [newJ], by simp [newJ], fun a ha => by omega⟩
  · rw [List.length_set, List.length_replicate]
    show n = ((n : Int) - 1).toNat + 1
    omega
  · rw [List.getElem?_set_self (by rw [List.length_replicate]; omega)]
  · rcases mem_set hx with rfl | hx
    · exact headJ_size _
    · rw [List.eq_of_mem_replicate hx]; exact hz
/-- The journal that is opened. -/
def sealedJ (J : Jr) : Jr := { J with sizes := J.sizes.take J.sealed.toNat }
theorem hd_back (t f s : Nat) (n : Int) (h1 : (t : Int) < n - 1) (h2 : n ≤ 1000) (h3 : 1 ≤ f) (h4 : f + s ≤ 1000) (h5 : (s : Int) ≤ n - 1) : hdJ (strOfNums (le t 2 ++ le f 8 ++ le ((f : Int) + (s : Int)) 8)) n = (⟨n - 1, t, f, s, []⟩, true) := by
  have r1 := readS_le t 2 (strOfNums (le f 8 ++ le ((f + s : Nat) : Int) 8)) (by omega) (by omega)
  have r2 := readS_le f 8 (strOfNums (le ((f + s : Nat) : Int) 8)) (by omega) (by omega)
  have r3 := readS_le (f + s) 8 (strOfNums []) (by omega) (by omega)
  rw [strOfNums_append] at r1 r2 r3
  rw [List.append_nil] at r3
  rw [← List.append_assoc] at r1
  have he : endS (strOfNums []) 0 = 0 := by
    unfold endS
    rw [if_neg (by simp), if_pos (by rw [strOfNums_size]; rfl)]
  have e1 : ((f + s : Nat) : Int) = (f : Int) + (s : Int) := by omega
  rw [e1] at r1 r2 r3
  have e2 : (f : Int) + (s : Int) - (f : Int) = s := by omega
  simp only [hdJ, r1, r2, r3, e2]
  rw [decide_eq_true (⟨he, h1, by omega, by omega, by omega, h5⟩ : endS (strOfNums []) 0 = 0 ∧ (t : Int) < n - 1 ∧ 1 ≤ (f : Int) ∧ (f : Int) ≤ 1099511627776 ∧ (f : Int) ≤ (f : Int) + (s : Int) ∧ (s : Int) ≤ n - 1)]
theorem op_of {b tx r : ByteArray} {n : Int} {J : Jr} (hu : unblockS b = (tx, 0)) (hc : cutS tx aitch = (r, true)) (hd : hdJ r n = (J, true)) : opJ b n = some J := by
  unfold opJ
  rw [hu]
  show (if (0 : Int) ≠ 0 ∨ (cutS tx aitch).2 = false then none else _) = _
  rw [hc, if_neg (by simp), hd]
  rfl
theorem head_op (h : JW J) (hf : J.first + J.sealed ≤ 1000) : opJ (headJ J) (J.ring + 1) = some { J with sizes := [] } := by
  have hu : unblockS (headJ J) = (headTx J, 0) := Go.Proofs.Ytlmnfnkjbgnklaa.Ev.unblock_block _ (by rw [headTx_size]; omega)
  have hc : cutS (headTx J) aitch = (strOfNums (le J.tail 2 ++ le J.first 8 ++ le (J.first + J.sealed) 8), true) := cut_self aitch _
  refine op_of hu hc ?_
  have t0 := h.t0
  have tr := h.tr
  have r5 := h.r255
  have f1 := h.f1
  have s0 := h.s0
  have sn := h.sn
  have su := h.su
  have hls := len_le_sum J.sizes h.pos
  clear hu hc h
  obtain ⟨ring, tail, first, sl, sizes⟩ := J
  dsimp only at *
  obtain ⟨t, rfl⟩ : ∃ t : Nat, tail = t := ⟨tail.toNat, by omega⟩
  obtain ⟨f, rfl⟩ : ∃ f : Nat, first = f := ⟨first.toNat, by omega⟩
  obtain ⟨s, rfl⟩ : ∃ s : Nat, sl = s := ⟨sl.toNat, by omega⟩
  have := hd_back t f s (ring + 1) (by omega) (by omega) (by omega) (by omega) (by omega)
  rw [this, show ring + 1 - 1 = ring from by omega]
theorem open_law (h : PI J hs reg u) : openJ reg = some (sealedJ J, hs.take J.sealed.toNat) := by
  have r7 := h.ok.r7
  have r5 := h.ok.r255
  have hl := h.len
  have s0 := h.ok.s0
  have sn := h.ok.sn
  have hsl := h.slen
  have hup := h.up
  unfold openJ
  rw [if_neg (by omega), h.hd]
  have ho := head_op h.ok (by omega)
  rw [show (J.ring + 1 : Int) = (reg.length : Int) from by omega] at ho
  simp only [Option.getD_some, ho]
  have hm : reg.length - 1 = J.ring.toNat := by omega
  have hfs : (flatB J.first (hs.take J.sealed.toNat)).length = (J.sizes.take J.sealed.toNat).sum := by rw [flatB_len, h.sz, map_take_sum]
  have hus := h.us
  have hul := h.ul
  have hsr := h.sring
  have hring : ringL reg J.ring.toNat J.tail.toNat = flatB J.first (hs.take J.sealed.toNat) ++ (ringL reg J.ring.toNat J.tail.toNat).drop (J.sizes.take J.sealed.toNat).sum := by
    have e : (ringL reg J.ring.toNat J.tail.toNat).take (J.sizes.take J.sealed.toNat).sum = flatB J.first (hs.take J.sealed.toNat) := by
      apply List.ext_getElem?
      intro i
      by_cases hi : i < (J.sizes.take J.sealed.toNat).sum
      · rw [List.getElem?_take_of_lt hi]
        unfold ringL
        rw [List.getElem?_map, List.getElem?_range (by omega)]
        have h1 := h.laid i (by omega)
        have h2 := flatB_append J.first (hs.take J.sealed.toNat) (hs.drop J.sealed.toNat)
        rw [List.take_append_drop] at h2
        rw [h2, List.getElem?_append_left (by omega)] at h1
        rw [Option.map_some, h1, List.getElem?_eq_getElem (by omega)]
        rfl
      · rw [List.getElem?_eq_none (by rw [List.length_take]; omega), List.getElem?_eq_none (by omega)]
    rw [← e, List.take_append_drop]
  have hlt : (hs.take J.sealed.toNat).length = J.sealed.toNat := by rw [List.length_take]; omega
  have hlp := loopJ_back (hs.take J.sealed.toNat) J.first ((ringL reg J.ring.toNat J.tail.toNat).drop (J.sizes.take J.sealed.toNat).sum) h.ok.f1 (by rw [hlt]; omega) (fun l hl => h.rt l (List.mem_of_mem_take hl))
  rw [← hring, hlt] at hlp
  rw [hm, hlp]
  have e : (hs.take J.sealed.toNat).map (fun l => l.length + 1) = J.sizes.take J.sealed.toNat := by rw [h.sz, List.map_take]
  show some ((⟨J.ring, J.tail, J.first, J.sealed, (hs.take J.sealed.toNat).map fun l => l.length + 1⟩ : Jr), hs.take J.sealed.toNat) = _
  rw [e]
  rfl
/-- The region, of what is sealed alone. -/
theorem PI.sealed (h : PI J hs reg u) : PI (sealedJ J) (hs.take J.sealed.toNat) reg (sealedJ J).sizes.sum := by
  have s0 := h.ok.s0
  have sn := h.ok.sn
  have hsl := h.slen
  have e1 : headJ (sealedJ J) = headJ J := rfl
  refine ⟨⟨h.ok.r7, h.ok.r255, h.ok.t0, h.ok.tr, h.ok.f1, ?_, h.ok.s0, ?_, ?_, fun n hn => h.ok.pos n (List.mem_of_mem_take hn)⟩, ?_, h.len, by rw [e1]; exact h.hd, h.all, fun l hl => h.rt l (List.mem_of_mem_take hl), ?_, ?_, Nat.le_refl _, fun a ha => ?_⟩
  · show J.first + ((J.sizes.take J.sealed.toNat).length : Int) ≤ _
    have := h.ok.fn
    rw [List.length_take]; omega
  · show J.sealed ≤ ((J.sizes.take J.sealed.toNat).length : Int)
    rw [List.length_take]; omega
  · show ((J.sizes.take J.sealed.toNat).sum : Int) ≤ J.ring
    have := sum_take_le J.sizes J.sealed.toNat
    have := h.ok.su
    omega
  · show J.sizes.take J.sealed.toNat = _
    rw [h.sz, List.map_take]
  · show J.first + ((hs.take J.sealed.toNat).length : Int) ≤ 1000
    have := h.up
    rw [List.length_take]; omega
  · exact sum_take_le _ _
  · have ha' : a < (J.sizes.take J.sealed.toNat).sum := ha
    have h1 := h.laid a (by have := h.us; omega)
    have h2 := flatB_append J.first (hs.take J.sealed.toNat) (hs.drop J.sealed.toNat)
    rw [List.take_append_drop] at h2
    rw [h2, List.getElem?_append_left (by rw [flatB_len, ← map_take_sum, ← h.sz]; exact ha')] at h1
    exact h1
end
end Go.Proofs.Ytlmnfnkjbgnklaa.JS
end

section
/- A journal's header, read: headed. -/
set_option linter.unusedVariables false
set_option linter.unusedSimpArgs false
namespace Go.Proofs.Ytlmnfnkjbgnklaa.Jrnl
open Go.RowKit Go.Proofs.YtlmnfnkjbgnklaaW.PrintWords Go.Proofs.YtlmnfnkjbgnklaaW.PrintLast Go.Proofs.YtlmnfnkjbgnklaaW.PrintMore Go.Proofs.Ytlmnfnkjbgnklaa.TxnS Go.Proofs.Ytlmnfnkjbgnklaa.Txn Go.Proofs.Ytlmnfnkjbgnklaa.JS Go.Proofs.Ytlmnfnkjbgnklaa.Run Go.Proofs.Ytlmnfnkjbgnklaa.Spec Go.Proofs.Ytlmnfnkjbgnklaa.C
theorem readS_hi (s : ByteArray) (e : Int) (n : Nat) : (readS s e n).1 ≤ 9223372036854775807 := by
  unfold readS
  split
  · show (0 : Int) ≤ _; omega
  · split
    · show (0 : Int) ≤ _; omega
    · split
      · show (0 : Int) ≤ _; omega
      · rename_i h
        show ((num (s.data.toList.take n) : Nat) : Int) ≤ _
        omega
set_option maxHeartbeats 1600000 in
set_option maxRecDepth 100000 in
theorem jheaded_no (b : ByteArray) (n : Int) (w : World) (hs : b.size ≤ 1125899906842624) (h : (unblockS b).2 ≠ 0 ∨ (cutS (unblockS b).1 aitch).2 = false) :
    Calls Try.prog 41 #[.string b, .int .i64 n] w fun e w' => e = .returned (.tuple #[.pointer none, .bool false]) ∧ Below w.heap.size w w' := by
  have hk := sum_Unblock.calls b (unblockS b).1 (unblockS b).2
  have hk2 := cut_calls (unblockS b).1 aitch
  have HU := Aside0.mk (fun W => hk W (lim_ok _ hs))
  obtain ⟨t, e0, ht⟩ : ∃ t e0, unblockS b = (t, e0) := ⟨_, _, rfl⟩
  rw [ht] at HU hk2 h
  obtain ⟨r, ok, hr⟩ : ∃ r ok, cutS t aitch = (r, ok) := ⟨_, _, rfl⟩
  simp only [hr] at hk2 h
  unfold aitch at hk2
  have HC := Aside0.mk hk2
  have hcase : (e0 != 0) = true ∨ (e0 = 0 ∧ ok = false) := by
    by_cases he : e0 = 0
    · right
      rcases h with h | h
      · exact absurd he h
      · exact ⟨he, h⟩
    · left
      simp [he]
  clear hk hk2 ht hr hs h
  rcases hcase with he | ⟨rfl, rfl⟩
  all_goals
    go_enter Try.func41, Try.ntmps41
    go_wp2_with fail
    refine (HU.out _).mono ?_
    rintro e w1 ⟨rfl, hB⟩
    have HB := Aside0.mk hB
    clear hB
    go_wp2_with fail
    refine (HC.out _).mono ?_
    rintro e w2 ⟨rfl, hD⟩
    have HB3 := Aside0.mk (HB.out.trans (hD.below.mono HB.out.size))
    clear hD HB
    go_wp2_with fail
    go_ret2
    exact ⟨rfl, HB3.out⟩
/-- What headed leaves. -/
def HdPost (w : World) (r : Option Jr) (e : Ending) (w' : World) : Prop :=
  (∃ J jb, r = some J ∧ e = .returned (.tuple #[ptr jb, .bool true]) ∧ JIs w.heap.size w' jb (.slice none 0 0) J ∧ J.sizes = [] ∧ Below w.heap.size w w') ∨
  (∃ p, r = none ∧ e = .returned (.tuple #[.pointer p, .bool false]) ∧ Below w.heap.size w w')
set_option maxHeartbeats 3200000 in
set_option maxRecDepth 100000 in
theorem jheaded_yes (b t r : ByteArray) (n : Int) (w : World) (hn1 : 8 ≤ n) (hn2 : n ≤ 256) (hs : b.size ≤ 1125899906842624) (ht : unblockS b = (t, 0)) (hr : cutS t aitch = (r, true)) :
    Calls Try.prog 41 #[.string b, .int .i64 n] w (HdPost w (if (hdJ r n).2 = true then some (hdJ r n).1 else none)) := by
  have hu := Try.underlying72
  have hk := sum_Unblock.calls b (unblockS b).1 (unblockS b).2
  have hk2 := cut_calls t aitch
  have HU := Aside0.mk (fun W => hk W (lim_ok _ hs))
  rw [ht] at HU
  rw [hr] at hk2
  unfold aitch at hk2
  have HC := Aside0.mk hk2
  obtain ⟨a, ha⟩ : ∃ a, a = readS r 0 2 := ⟨_, rfl⟩
  obtain ⟨f, hf⟩ : ∃ f, f = readS a.2.2.1 a.2.2.2 8 := ⟨_, rfl⟩
  obtain ⟨x, hx⟩ : ∃ x, x = readS f.2.2.1 f.2.2.2 8 := ⟨_, rfl⟩
  obtain ⟨en, hen⟩ : ∃ en, en = endS x.2.2.1 x.2.2.2 := ⟨_, rfl⟩
  have hf0 : 0 ≤ f.1 := by rw [hf]; exact readS_nn _ _ _
  have hf9 : f.1 ≤ 9223372036854775807 := by rw [hf]; exact readS_hi _ _ _
  have hx0 : 0 ≤ x.1 := by rw [hx]; exact readS_nn _ _ _
  have hx9 : x.1 ≤ 9223372036854775807 := by rw [hx]; exact readS_hi _ _ _
  have HRes : Aside0 (hdJ r n = (⟨n - 1, a.1, f.1, x.1 - f.1, []⟩, decide (en = 0 ∧ a.1 < n - 1 ∧ 1 ≤ f.1 ∧ f.1 ≤ 1099511627776 ∧ f.1 ≤ x.1 ∧ x.1 - f.1 ≤ n - 1))) := ⟨by rw [hen, hx, hf, ha]; rfl⟩
  have HA := Aside0.mk ha
  have HF := Aside0.mk hf
  have HX := Aside0.mk hx
  have HEn := Aside0.mk hen
  have w1 : IntKind.i64.wrap (n - 1) = n - 1 := IntWalk.i64_in _ (by omega)
  have w2 : IntKind.i64.wrap (x.1 - f.1) = x.1 - f.1 := IntWalk.i64_in _ (by omega)
  have hcase : ((en == 0) = false ∧ Aside0 ((hdJ r n).2 = false)) ∨
      ((en == 0) = true ∧ decide (a.1 < n - 1) = false ∧ Aside0 ((hdJ r n).2 = false)) ∨
      ((en == 0) = true ∧ decide (a.1 < n - 1) = true ∧ decide (f.1 ≥ 1) = false ∧ Aside0 ((hdJ r n).2 = false)) ∨
      ((en == 0) = true ∧ decide (a.1 < n - 1) = true ∧ decide (f.1 ≥ 1) = true ∧ decide (f.1 ≤ 1099511627776) = false ∧ Aside0 ((hdJ r n).2 = false)) ∨
      ((en == 0) = true ∧ decide (a.1 < n - 1) = true ∧ decide (f.1 ≥ 1) = true ∧ decide (f.1 ≤ 1099511627776) = true ∧ decide (x.1 ≥ f.1) = false ∧ Aside0 ((hdJ r n).2 = false)) ∨
      ((en == 0) = true ∧ decide (a.1 < n - 1) = true ∧ decide (f.1 ≥ 1) = true ∧ decide (f.1 ≤ 1099511627776) = true ∧ decide (x.1 ≥ f.1) = true ∧ decide (x.1 - f.1 ≤ n - 1) = false ∧ Aside0 ((hdJ r n).2 = false)) ∨
      ((en == 0) = true ∧ decide (a.1 < n - 1) = true ∧ decide (f.1 ≥ 1) = true ∧ decide (f.1 ≤ 1099511627776) = true ∧ decide (x.1 ≥ f.1) = true ∧ decide (x.1 - f.1 ≤ n - 1) = true ∧ Aside0 ((hdJ r n).2 = true)) := by
    rw [HRes.out]
    dsimp only
    by_cases g0 : en = 0
    · have b0 : (en == 0) = true := by simp [g0]
      by_cases g1 : a.1 < n - 1
      · by_cases g2 : 1 ≤ f.1
        · by_cases g3 : f.1 ≤ 1099511627776
          · by_cases g4 : f.1 ≤ x.1
            · by_cases g5 : x.1 - f.1 ≤ n - 1
              · exact .inr (.inr (.inr (.inr (.inr (.inr ⟨b0, decide_eq_true g1, decide_eq_true g2, decide_eq_true g3, decide_eq_true g4, decide_eq_true g5, ⟨decide_eq_true ⟨g0, g1, g2, g3, g4, g5⟩⟩⟩)))))
              · exact .inr (.inr (.inr (.inr (.inr (.inl ⟨b0, decide_eq_true g1, decide_eq_true g2, decide_eq_true g3, decide_eq_true g4, decide_eq_false g5, ⟨decide_eq_false fun h => g5 h.2.2.2.2.2⟩⟩)))))
            · exact .inr (.inr (.inr (.inr (.inl ⟨b0, decide_eq_true g1, decide_eq_true g2, decide_eq_true g3, decide_eq_false g4, ⟨decide_eq_false fun h => g4 h.2.2.2.2.1⟩⟩))))
          · exact .inr (.inr (.inr (.inl ⟨b0, decide_eq_true g1, decide_eq_true g2, decide_eq_false g3, ⟨decide_eq_false fun h => g3 h.2.2.2.1⟩⟩)))
        · exact .inr (.inr (.inl ⟨b0, decide_eq_true g1, decide_eq_false g2, ⟨decide_eq_false fun h => g2 h.2.2.1⟩⟩))
      · exact .inr (.inl ⟨b0, decide_eq_false g1, ⟨decide_eq_false fun h => g1 h.2.1⟩⟩)
    · exact .inl ⟨by simp [g0], ⟨decide_eq_false fun h => g0 h.1⟩⟩
  obtain ⟨res, hres⟩ : ∃ res, res = if (hdJ r n).2 = true then some (hdJ r n).1 else none := ⟨_, rfl⟩
  rw [← hres]
  have HRs := Aside0.mk hres
  clear hk hk2 ht hr hs ha hf hx hen hf0 hf9 hx0 hx9 hres
  go_enter Try.func41, Try.ntmps41
  go_wp2_with fail
  refine (HU.out _).mono ?_
  rintro e w1 ⟨rfl, hB⟩
  have HB := Aside0.mk hB
  clear hB
  go_wp2_with fail
  refine (HC.out _).mono ?_
  rintro e w2 ⟨rfl, hD⟩
  have HB2 := Aside0.mk (HB.out.trans (hD.below.mono HB.out.size))
  clear hD HB
  go_wp2_with fail
  refine (Ps.codec_Of.calls r r 0 w _ (by first | exact HB2.out | exact below_drew1 HB2.out) rfl).mono ?_
  rintro e w3 ⟨g, rfl, hI, hB, _⟩
  have HI3 := Aside0.mk hI
  have HB3 := Aside0.mk hB
  clear hI hB HB2
  go_wp2_with fail
  refine (read_calls g r 0 2 (by omega) w w3 HI3.out HB3.out).mono ?_
  rintro e w4 ⟨rfl, hI, hB, _⟩
  rw [← HA.out] at hI ⊢
  have HI4 := Aside0.mk hI
  have HB4 := Aside0.mk hB
  clear hI hB HB3 HI3 HA
  go_wp2_with fail
  refine (read_calls g a.2.2.1 a.2.2.2 8 (by omega) w w4 HI4.out HB4.out).mono ?_
  rintro e w5 ⟨rfl, hI, hB, _⟩
  rw [← HF.out] at hI ⊢
  have HI5 := Aside0.mk hI
  have HB5 := Aside0.mk hB
  clear hI hB HB4 HI4 HF
  go_wp2_with fail
  refine (read_calls g f.2.2.1 f.2.2.2 8 (by omega) w w5 HI5.out HB5.out).mono ?_
  rintro e w6 ⟨rfl, hI, hB, _⟩
  rw [← HX.out] at hI ⊢
  have HI6 := Aside0.mk hI
  have HB6 := Aside0.mk hB
  clear hI hB HB5 HI5 HX
  have HE := Aside0.mk (end_calls g x.2.2.1 x.2.2.2 w w6 HI6.out HB6.out)
  rw [← HEn.out] at HE
  clear HI6 HEn
  obtain ⟨x1, x2, x3, x4⟩ := x
  obtain ⟨f1, f2, f3, f4⟩ := f
  obtain ⟨a1, a2, a3, a4⟩ := a
  dsimp only at hcase w2 HRes
  go_wp2_with fail
  refine HE.out.mono ?_
  rintro e w7 ⟨rfl, _, hB, _⟩
  have HB7 := Aside0.mk hB
  clear hB HE HB6
  have HJn : Aside0 (JIs w.heap.size (w7.alloc (.cells #[.int .i64 (n - 1), .int .i64 a1, .int .i64 f1, .int .i64 (x1 - f1), .slice none 0 0] 72)) w7.heap.size (.slice none 0 0) ⟨n - 1, a1, f1, x1 - f1, []⟩) := ⟨⟨heap_alloc_new w7 _, .inl ⟨rfl, rfl⟩, HB7.out.size, by simp [Value.ownBlock]⟩⟩
  have HBn := Aside0.mk (below_alloc HB7.out (.cells #[.int .i64 (n - 1), .int .i64 a1, .int .i64 f1, .int .i64 (x1 - f1), .slice none 0 0] 72))
  rcases hcase with ⟨q0, HQ⟩ | ⟨q0, q1, HQ⟩ | ⟨q0, q1, q2, HQ⟩ | ⟨q0, q1, q2, q3, HQ⟩ | ⟨q0, q1, q2, q3, q4, HQ⟩ | ⟨q0, q1, q2, q3, q4, q5, HQ⟩ | ⟨q0, q1, q2, q3, q4, q5, HQ⟩
  all_goals
    go_wp2_with fail
    go_ret2
    first
      | (refine .inr ⟨some ⟨w7.heap.size, 0, none⟩, ?_, rfl, HBn.out⟩; rw [HRs.out, if_neg (by rw [HQ.out]; simp)])
      | (refine .inl ⟨_, _, ?_, rfl, HJn.out, rfl, HBn.out⟩; rw [HRs.out, if_pos HQ.out, HRes.out])
theorem jheaded_calls (b : ByteArray) (n : Int) (w : World) (hn1 : 8 ≤ n) (hn2 : n ≤ 256) (hs : b.size ≤ 1125899906842624) :
    Calls Try.prog 41 #[.string b, .int .i64 n] w (HdPost w (opJ b n)) := by
  unfold opJ
  by_cases h : (unblockS b).2 ≠ 0 ∨ (cutS (unblockS b).1 aitch).2 = false
  · rw [if_pos h]
    refine (jheaded_no b n w hs h).mono ?_
    rintro e w' ⟨rfl, hB⟩
    exact .inr ⟨_, rfl, rfl, hB⟩
  · rw [if_neg h]
    have h1 : (unblockS b).2 = 0 := Decidable.not_not.1 (fun hh => h (.inl hh))
    have h2 : (cutS (unblockS b).1 aitch).2 = true := by
      cases hc : (cutS (unblockS b).1 aitch).2 with
      | true => rfl
      | false => exact absurd (.inr hc) h
    exact jheaded_yes b _ _ n w hn1 hn2 hs (Prod.ext rfl h1) (Prod.ext rfl h2)
end Go.Proofs.Ytlmnfnkjbgnklaa.Jrnl
end
