/- A transaction is read as it was written: plain laws. -/
import Derived.Test.YtofiblkeihchmaaTxnDec
import Derived.Test.YtofiblkeihchmaaSumLaws
set_option linter.unusedVariables false
set_option linter.unusedSimpArgs false
namespace Go.Proofs.Ytofiblkeihchmaa.TxnS
open Go.RowKit Go.Proofs.YtofiblkeihchmaaW.PrintWords Go.Proofs.Ytofiblkeihchmaa.Spec Go.Proofs.Ytofiblkeihchmaa.C
def blank (l : List Ch) : List Ch := l.map fun c => (c.1, zb)
theorem zb_size : zb.size = 128 := by unfold zb; rw [strOfNums_size, List.length_replicate]
theorem rightL_blank (a : Int) : ∀ (l : List Ch), rightL a l → rightL a (blank l)
  | [], _ => trivial
  | c :: l, h => ⟨h.1, h.2.1, zb_size, rightL_blank c.1 l h.2.2.2⟩
theorem blank_length (l : List Ch) : (blank l).length = l.length := by simp [blank]
theorem right_blank {l : List Ch} (h : right l) : right (blank l) := ⟨rightL_blank _ l h.1, by rw [blank_length]; exact h.2⟩
theorem rdL_nums (l : List Ch) (t : List Int) (h : ∀ c ∈ l, 0 ≤ c.1 ∧ c.1 < 1024) : ∀ i, i ≤ l.length → rdL (strOfNums (numsL l ++ t)) 0 i = (blank (l.take i), strOfNums (numsL (l.drop i) ++ t), 0)
  | 0, _ => rfl
  | i + 1, hi => by
    have ih := rdL_nums l t h i (by omega)
    have hlt : i < l.length := by omega
    have hc := h _ (List.getElem_mem hlt)
    have hd : numsL (l.drop i) = le (l[i]).1 2 ++ numsL (l.drop (i + 1)) := by
      rw [List.drop_eq_getElem_cons hlt]
      rfl
    obtain ⟨n, hn⟩ : ∃ n : Nat, (l[i]).1 = n := ⟨(l[i]).1.toNat, by omega⟩
    have hr := readS_le n 2 (strOfNums (numsL (l.drop (i + 1)) ++ t)) (by omega) (by omega)
    rw [strOfNums_append, ← List.append_assoc, ← hn, ← hd] at hr
    rw [rdL, ih]
    dsimp only
    rw [hr]
    dsimp only
    rw [List.take_succ_eq_append_getElem hlt]
    unfold blank
    rw [List.map_append]
    rfl
theorem head_back {seq : Int} {l : List Ch} (h0 : 1 ≤ seq) (h1 : seq ≤ 1099511627776) (hr : right l) : headedS (headS seq l) = (seq, blank l, true) := by
  have hu : unblockS (headS seq l) = (headT seq l, 0) := Go.Proofs.Ytofiblkeihchmaa.Ev.unblock_block _ (by rw [headT_size]; have := hr.2; omega)
  have hf := right_fits hr
  unfold headedS
  rw [hu]
  have hc : cutS (headT seq l) tee = (strOfNums (headN seq l), true) := cut_self tee (strOfNums (headN seq l))
  dsimp only
  rw [hc, if_neg (by simp)]
  obtain ⟨s, rfl⟩ : ∃ s : Nat, seq = s := ⟨seq.toNat, by omega⟩
  have e1 : headN (s : Int) l = le s 8 ++ (le l.length 1 ++ (numsL l ++ le (crc (dataL l)) 4)) := by unfold headN; simp only [List.append_assoc]
  have r1 := readS_le s 8 (strOfNums (le l.length 1 ++ (numsL l ++ le (crc (dataL l)) 4))) (by omega) (by omega)
  have r2 := readS_le l.length 1 (strOfNums (numsL l ++ le (crc (dataL l)) 4)) (by have := hr.2; omega) (by have := hr.2; omega)
  have r3 := rdL_nums l (le (crc (dataL l)) 4) (fun c hc => ⟨(hf.2 c hc).1, (hf.2 c hc).2.1⟩) l.length (Nat.le_refl _)
  have r4 := readS_le (crc (dataL l)) 4 (strOfNums []) (by have := crc_lt (dataL l); omega) (by have := crc_lt (dataL l); omega)
  rw [strOfNums_append] at r1 r2 r4
  rw [List.append_nil] at r4
  rw [List.take_length, List.drop_length] at r3
  have e0 : numsL ([] : List Ch) ++ le (crc (dataL l)) 4 = le (crc (dataL l)) 4 := rfl
  rw [e0] at r3
  rw [← e1] at r1
  unfold headR
  simp only [r1, r2, Int.toNat_natCast, r3, r4]
  have he : endS (strOfNums []) 0 = 0 := by
    unfold endS
    rw [if_neg (by simp), if_pos (by rw [strOfNums_size]; rfl)]
  have hd : decide (endS (strOfNums []) 0 = 0 ∧ 1 ≤ (s : Int) ∧ (s : Int) ≤ 1099511627776 ∧ right (blank l)) = true := decide_eq_true ⟨he, h0, h1, right_blank hr⟩
  rw [hd]
theorem newL_get (bs : List ByteArray) (l : List Ch) (j : Nat) : (newL bs l)[j]? = (l[j]?).map fun c => (c.1, (bs[j + 1]?).getD ⟨#[]⟩) := by
  unfold newL
  rw [setK_get]
  by_cases h : j < l.length
  · rw [if_pos h]
  · rw [if_neg h, List.getElem?_eq_none (by omega)]; rfl
theorem newL_back (b : ByteArray) (l : List Ch) (more : List ByteArray) : newL (b :: (l.map Prod.snd ++ more)) (blank l) = l := by
  apply List.ext_getElem?
  intro j
  rw [newL_get, List.getElem?_cons_succ]
  unfold blank
  rw [List.getElem?_map]
  by_cases h : j < l.length
  · rw [List.getElem?_append_left (by simpa using h), List.getElem?_map, List.getElem?_eq_getElem h]
    rfl
  · rw [List.getElem?_eq_none (show l.length ≤ j by omega)]; rfl
theorem dec_cons (b : ByteArray) (r : List ByteArray) : decS (b :: r) = if (headedS b).2.2 = false then (0, [], 0, 4) else if (b :: r).length < (headedS b).2.1.length + 1 then (0, [], 0, 20) else if ¬ right (newL (b :: r) (headedS b).2.1) ∨ b ≠ headS (headedS b).1 (newL (b :: r) (headedS b).2.1) then (0, [], 0, 4) else ((headedS b).1, newL (b :: r) (headedS b).2.1, ((headedS b).2.1.length : Int) + 1, (0 : Int)) := rfl
/-- There and back. -/
theorem dec_enc {seq : Int} {l : List Ch} (h0 : 1 ≤ seq) (h1 : seq ≤ 1099511627776) (hr : right l) (more : List ByteArray) : decS (blocksL seq l ++ more) = (seq, l, (l.length : Int) + 1, 0) := by
  have hb := head_back h0 h1 hr
  have hn := newL_back (headS seq l) l more
  show decS (headS seq l :: (l.map Prod.snd ++ more)) = _
  rw [dec_cons, hb]
  dsimp only
  rw [if_neg (by simp), if_neg (by rw [List.length_cons, List.length_append, List.length_map, blank_length]; omega), hn, if_neg, blank_length]
  rintro (h | h)
  · exact h hr
  · exact h rfl
end Go.Proofs.Ytofiblkeihchmaa.TxnS
