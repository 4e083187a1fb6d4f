/- Of every view, every last normal view and every block: ViewKeeps answers true, and what was in memory stays. -/
import Derived.Test.YtifhgfjohpbliaaPkx3
import Derived.Test.YtifhgfjohpbliaaReadLaws
set_option linter.unusedVariables false
set_option linter.unusedSimpArgs false
namespace Go.Proofs.Ytifhgfjohpbliaa.Core
open Go.RowKit Go.Proofs.YtifhgfjohpbliaaW.PrintWords Go.Proofs.YtifhgfjohpbliaaW.PrintLast Go.Proofs.YtifhgfjohpbliaaW.PrintMore Go.Proofs.Ytifhgfjohpbliaa.GivenV Go.Proofs.Ytifhgfjohpbliaa.C Go.Proofs.Ytifhgfjohpbliaa.Spec Go.Proofs.Ytifhgfjohpbliaa.Ev

theorem cut_same : @Pk.strings_CutPrefix.f = @Ps.strings_CutPrefix.f := rfl
theorem of_same : @Pk.codec_Of.f = @Ps.codec_Of.f := rfl
theorem fixed_l0 : ∀ k, @Pk.codec_Reader_Fixed.l0 k = @Ps.codec_Reader_Fixed.l0 k
  | 0 => rfl
  | k + 1 => by
    have ih := fixed_l0 k
    funext a b c d e f
    simp only [Pk.codec_Reader_Fixed.l0, Ps.codec_Reader_Fixed.l0, ih]
    rfl
theorem fixed_same : @Pk.codec_Reader_Fixed.f = @Ps.codec_Reader_Fixed.f := by
  funext k a b c
  unfold Pk.codec_Reader_Fixed.f Ps.codec_Reader_Fixed.f
  rw [fixed_l0 k]
  rfl
theorem end_same : @Pk.codec_Reader_End.f = @Ps.codec_Reader_End.f := rfl
def V1 : ByteArray := ⟨#[86]⟩
def decV (b : ByteArray) : Int × Int × Int :=
  let c := cutS (unblockS b).1 V1
  let r1 := readS c.1 0 8
  let r2 := readS r1.2.2.1 r1.2.2.2 8
  if (unblockS b).2 = 0 then (if c.2 = true then (if endS r2.2.2.1 r2.2.2.2 = 0 then (if (GivenV.encS r1.1 r2.1).2 = 0 then (r1.1, r2.1, 0) else (0, 0, 4)) else (0, 0, 4)) else (0, 0, 4)) else (0, 0, 4)
theorem end_f (s : ByteArray) (e : Int) : Pk.codec_Reader_End.f s e = some (endS s e, s, e) := by
  unfold Pk.codec_Reader_End.f endS
  by_cases h : e = 0
  · rw [if_pos h]
    by_cases hs : s.size = 0
    · rw [if_pos ((size_zero s).2 hs)]; simp [h, hs]
    · rw [if_neg (fun q => hs ((size_zero s).1 q))]; simp [h, hs]
  · rw [if_neg h, if_pos h]
theorem decV_ev (b : ByteArray) (hs : b.size ≤ 1125899906842624) : Ev (fun k => Pk.view_Decode.f k b) (decV b) := by
  unfold Pk.view_Decode.f decV
  rw [show sum_Unblock.f b = some (unblockS b) from lim_ok _ hs]
  simp only [Option.bind_some]
  rw [cut_same, show (⟨#[86]⟩ : ByteArray) = V1 from rfl, cut_f]
  simp only [Option.bind_some]
  generalize cutS (unblockS b).1 V1 = c
  rw [show Pk.codec_Of.f c.1 = some (c.1, 0) from rfl]
  simp only [Option.bind_some]
  rw [fixed_same]
  refine Ev.bind (readS_ev c.1 0 8 (by omega)) ?_
  generalize readS c.1 0 8 = r1
  refine Ev.bind (readS_ev r1.2.2.1 r1.2.2.2 8 (by omega)) ?_
  generalize readS r1.2.2.1 r1.2.2.2 8 = r2
  rw [show view_Encode.f r1.1 r2.1 = some (GivenV.encS r1.1 r2.1) from rfl, end_f]
  simp only [Option.bind_some]
  refine Ev.congr (f := fun _ => some (if (unblockS b).2 = 0 then (if c.2 = true then (if endS r2.2.2.1 r2.2.2.2 = 0 then (if (GivenV.encS r1.1 r2.1).2 = 0 then (r1.1, r2.1, 0) else (0, 0, 4)) else (0, 0, 4)) else (0, 0, 4)) else (0, 0, 4))) (fun _ => ?_) (Ev.now _)
  repeat' split
  all_goals rfl
theorem le8 (n : Int) (h0 : 0 ≤ n) (h1 : n ≤ 1099511627776) : ∃ m : Nat, n = m ∧ m < 2 ^ (8 * 8) ∧ m < 9223372036854775808 := ⟨n.toNat, by omega, by omega, by omega⟩
/-- What is read of a text's two numbers. -/
theorem reads_text {v n : Int} (h : okM v n) : readS (strOfNums (le v 8 ++ le n 8)) 0 8 = (v, 0, strOfNums (le n 8), 0) ∧ readS (strOfNums (le n 8)) 0 8 = (n, 0, strOfNums [], 0) := by
  unfold okM at h
  obtain ⟨v', hv, g1, g2⟩ := le8 v (by omega) (by omega)
  obtain ⟨n', hn, g3, g4⟩ := le8 n (by omega) (by omega)
  subst hv hn
  refine ⟨?_, ?_⟩
  · rw [← strOfNums_append]; exact readS_le v' 8 _ g1 g2
  · have := readS_le n' 8 (strOfNums []) g3 g4
    rwa [strOfNums_append, List.append_nil] at this
theorem empty_size : (strOfNums []).size = 0 := by rw [strOfNums_size]; rfl
theorem dec_text {b : ByteArray} {v n : Int} (h : okM v n) (hb : unblockS b = (textM v n, 0)) (he : (blockS (textM v n)).1 = b) : decV b = (v, n, 0) ∧ decR b = (v, n, 0) := by
  obtain ⟨h1, h2⟩ := reads_text h
  have hen : GivenV.encS v n = blockS (textM v n) := by unfold GivenV.encS; rw [if_pos h]
  have hb2 : (blockS (textM v n)).2 = 0 := by unfold blockS; rw [if_neg (by rw [textM_size]; omega)]
  have hc : cutS (textM v n) V1 = (strOfNums (le v 8 ++ le n 8), true) := cut_self V1 _
  have hx : (textM v n).extract 1 (textM v n).size = strOfNums (le v 8 ++ le n 8) := extract_app V1 _
  constructor
  · unfold decV
    rw [hb]
    dsimp only
    rw [hc]
    dsimp only
    rw [h1]
    dsimp only
    rw [h2]
    dsimp only
    rw [if_pos rfl, if_pos rfl, if_pos (by unfold endS; rw [if_neg (by simp), if_pos empty_size]), if_pos (by rw [hen, hb2])]
  · unfold decR
    rw [hb]
    dsimp only
    rw [if_neg (by simp), if_neg (by rw [textM_size]; simp), hx, h1]
    dsimp only
    rw [h2]
    dsimp only
    rw [if_neg (by simp), if_neg (by rw [hen, hb2]; simp), if_pos (by rw [hen, he])]
theorem ok_of_enc {v n : Int} (h : (GivenV.encS v n).2 = 0) : okM v n := by
  unfold GivenV.encS at h
  by_cases ho : okM v n
  · exact ho
  · rw [if_neg ho] at h; cases h
/-- Two numbers that were read are their bytes. -/
theorem bytes_of {s t r : ByteArray} {v n : Int} (h1 : readS s 0 8 = (v, 0, t, 0)) (h2 : readS t 0 8 = (n, 0, r, 0)) (hr : r.size = 0) : s = strOfNums (le v 8 ++ le n 8) := by
  have g1 := readS_ok (s := s) (e := 0) (n := 8) (by rw [h1])
  have g2 := readS_ok (s := t) (e := 0) (n := 8) (by rw [h2])
  rw [h1] at g1
  rw [h2] at g2
  obtain ⟨_, z1, e1⟩ := g1
  obtain ⟨_, z2, e2⟩ := g2
  simp only [Prod.mk.injEq] at e1 e2
  have l1 := le_num (s.data.toList.take 8)
  have l2 := le_num (t.data.toList.take 8)
  rw [show (s.data.toList.take 8).length = 8 from by rw [List.length_take]; have := size_eq s; omega, ← e1.1] at l1
  rw [show (t.data.toList.take 8).length = 8 from by rw [List.length_take]; have := size_eq t; omega, ← e2.1] at l2
  have ht : t.size = 8 := by
    have q := e2.2.2.1
    have : r.size = t.size - 8 := by rw [q, ByteArray.size_extract]; omega
    omega
  have ht2 : t.data.toList.take 8 = t.data.toList := List.take_of_length_le (by have := size_eq t; omega)
  apply data_inj
  rw [← strOfNums_append, ByteArray.data_append, Array.toList_append, l1, l2, ht2]
  have q := e1.2.2.1
  rw [q, Go.Lib.extract_data]
  have h3 : (s.data.toList.drop 8).take (s.size - 8) = s.data.toList.drop 8 := List.take_of_length_le (by have := size_eq s; rw [List.length_drop]; omega)
  rw [h3]
  exact (List.take_append_drop 8 _).symm
theorem dec_same (b : ByteArray) : decV b = decR b := by
  by_cases hV : ∃ v n, okM v n ∧ unblockS b = (textM v n, 0)
  · obtain ⟨v, n, ho, hu⟩ := hV
    have hs := unblock_says hu
    obtain ⟨h1, h2⟩ := dec_text ho hu hs.1
    rw [h1, h2]
  · have e1 : decV b = (0, 0, 4) := by
      unfold decV
      by_cases hu : (unblockS b).2 = 0
      · dsimp only
        rw [if_pos hu]
        obtain ⟨s, hs⟩ : ∃ s, unblockS b = (s, 0) := ⟨(unblockS b).1, by rw [← hu]⟩
        rw [hs] at hV ⊢
        dsimp only
        by_cases hc : (cutS s V1).2 = true
        · rw [if_pos hc]
          obtain ⟨r, hr⟩ : ∃ r, cutS s V1 = (r, true) := ⟨(cutS s V1).1, by rw [← hc]⟩
          rw [hr]
          dsimp only
          by_cases he : endS (readS (readS r 0 8).2.2.1 (readS r 0 8).2.2.2 8).2.2.1 (readS (readS r 0 8).2.2.1 (readS r 0 8).2.2.2 8).2.2.2 = 0
          · rw [if_pos he]
            by_cases hen : (GivenV.encS (readS r 0 8).1 (readS (readS r 0 8).2.2.1 (readS r 0 8).2.2.2 8).1).2 = 0
            · exfalso
              have ho := ok_of_enc hen
              unfold endS at he
              by_cases hx : (readS (readS r 0 8).2.2.1 (readS r 0 8).2.2.2 8).2.2.2 ≠ 0
              · rw [if_pos hx] at he; exact hx he
              · rw [if_neg hx] at he
                have hx' : (readS (readS r 0 8).2.2.1 (readS r 0 8).2.2.2 8).2.2.2 = 0 := by simpa using hx
                have hz : (readS (readS r 0 8).2.2.1 (readS r 0 8).2.2.2 8).2.2.1.size = 0 := by
                  by_cases q : (readS (readS r 0 8).2.2.1 (readS r 0 8).2.2.2 8).2.2.1.size = 0
                  · exact q
                  · rw [if_neg q] at he; cases he
                obtain ⟨a1, a2, a3⟩ := readS_ok hx'
                obtain ⟨b1, b2, b3⟩ := readS_ok a1
                have k1 : readS r 0 8 = ((readS r 0 8).1, 0, (readS r 0 8).2.2.1, 0) := by rw [b3]
                have k2 : readS (readS r 0 8).2.2.1 0 8 = ((readS (readS r 0 8).2.2.1 (readS r 0 8).2.2.2 8).1, 0, (readS (readS r 0 8).2.2.1 (readS r 0 8).2.2.2 8).2.2.1, 0) := by
                  rw [a1] at a3 ⊢
                  rw [a3]
                have hb := bytes_of k1 k2 hz
                refine hV ⟨_, _, ho, ?_⟩
                rw [cut_says hr]
                unfold textM
                rw [← hb]
                rfl
            · rw [if_neg hen]
          · rw [if_neg he]
        · rw [if_neg hc]
      · dsimp only
        rw [if_neg hu]
    have e2 : decR b = (0, 0, 4) := by
      unfold decR
      by_cases hu : (unblockS b).2 ≠ 0
      · rw [if_pos hu]
      · rw [if_neg hu]
        by_cases h17 : (unblockS b).1.size ≠ 17
        · rw [if_pos h17]
        · rw [if_neg h17]
          dsimp only
          obtain ⟨s, hs⟩ : ∃ s, unblockS b = (s, 0) := ⟨(unblockS b).1, by rw [show (0 : Int) = (unblockS b).2 from by simp at hu; exact hu.symm]⟩
          rw [hs] at hV h17 ⊢
          dsimp only at h17 ⊢
          by_cases hx : (readS (readS (s.extract 1 s.size) 0 8).2.2.1 (readS (s.extract 1 s.size) 0 8).2.2.2 8).2.2.2 ≠ 0
          · rw [if_pos hx]
          · rw [if_neg hx]
            by_cases hen : (GivenV.encS (readS (s.extract 1 s.size) 0 8).1 (readS (readS (s.extract 1 s.size) 0 8).2.2.1 (readS (s.extract 1 s.size) 0 8).2.2.2 8).1).2 ≠ 0
            · rw [if_pos hen]
            · rw [if_neg hen]
              have ho := ok_of_enc (by simpa using hen)
              refine if_neg (fun hb => hV ⟨_, _, ho, ?_⟩)
              have hb' := hb
              unfold GivenV.encS at hb'
              rw [if_pos ho] at hb'
              exact congrArg (fun z => (z, (0 : Int))) (block_inj hb' (by rw [textM_size]; omega) hs).symm
    rw [e1, e2]
theorem keeps_ev (v n : Int) (b : ByteArray) (hs : b.size ≤ 140737488351232) : Ev (fun k => Pk.cartularylaw21_ViewKeeps.f k v n b) true := by
  unfold Pk.cartularylaw21_ViewKeeps.f
  rw [show view_Encode.f v n = some (GivenV.encS v n) from rfl, show cartularyref21_Encode.f v n = some (GivenV.encS v n) from rfl, show cartularyref21_Decode.f b = some (decR b) from lim_ok _ (by omega)]
  simp only [Option.bind_some]
  refine Ev.bind (decV_ev b (by omega)) ?_
  rw [dec_same b]
  refine Ev.pos (by first | rfl | trivial) (Ev.pos (by first | rfl | trivial) (Ev.pos (by first | rfl | trivial) (Ev.pos (by first | rfl | trivial) ?_)))
  rw [show ((decR b).2.2 != (decR b).2.2) = false from by simp]
  by_cases h0 : (GivenV.encS v n).2 = 0
  · have ho := ok_of_enc h0
    have hen : GivenV.encS v n = blockS (textM v n) := by unfold GivenV.encS; rw [if_pos ho]
    have hx : (GivenV.encS v n).1.size ≤ 1125899906842624 := by rw [hen, blockS_size _ (by rw [textM_size]; omega)]; omega
    have hu : unblockS (GivenV.encS v n).1 = (textM v n, 0) := by rw [hen]; exact Ev.unblock_block _ (by rw [textM_size]; omega)
    have hd := dec_text ho hu (by rw [hen])
    have e := decV_ev (GivenV.encS v n).1 hx
    rw [hd.1] at e
    refine Ev.step (f := fun k => (Pk.view_Decode.f k (GivenV.encS v n).1).bind fun bt149 => (if bt149.2.2 = 0 then (if (!(bt149.1 == v) || (!(bt149.2.1 == n))) = true then (some false) else ((cartularylaw21_speaks.f).bind fun t153 => (some t153))) else (some false))) (fun k => ?_) (Ev.bind e (Ev.pos (by first | rfl | trivial) (Ev.neg (by simp) (Ev.now _))))
    simp only [Pk.cartularylaw21_ViewKeeps.j0]
    rw [if_neg (by simp), if_pos h0]
  · refine Ev.step (f := fun k => ((cartularylaw21_speaks.f).bind fun t154 => (some t154))) (fun k => ?_) (Ev.now _)
    simp only [Pk.cartularylaw21_ViewKeeps.j0]
    rw [if_neg (by simp), if_neg h0]
theorem ViewKeeps (W : World) (v n : Int) (_ : (Lit.int .i64 v).wf = true) (_ : (Lit.int .i64 n).wf = true) (b : ByteArray) (hb : b.size ≤ 140737488351232) :
    Calls Try.prog 8 #[.agg #[.int .i64 v, .int .i64 n], .string b] W fun e W' => e = .returned (.bool true) ∧ Below W.heap.size W W' := by
  obtain ⟨k, hk⟩ := (keeps_ev v n b hb).rounds
  exact Pk.cartularylaw21_ViewKeeps.calls k v n b true W hk
end Go.Proofs.Ytifhgfjohpbliaa.Core
