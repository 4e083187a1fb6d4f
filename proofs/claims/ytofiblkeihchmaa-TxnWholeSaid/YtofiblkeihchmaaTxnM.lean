/- Merge. -/
import Derived.Test.YtofiblkeihchmaaConcat
import Derived.Test.YtofiblkeihchmaaTxnE
import Derived.Test.YtofiblkeihchmaaKeys
set_option linter.unusedVariables false
set_option linter.unusedSimpArgs false
namespace Go.Proofs.Ytofiblkeihchmaa.TxnS
open Go.RowKit Go.Proofs.YtofiblkeihchmaaW.PrintWords Go.Proofs.Ytofiblkeihchmaa.Keys Go.Proofs.Ytofiblkeihchmaa.Maps
abbrev FS := Int → Option ByteArray
def putF (f : FS) (c : Ch) : FS := fun k => if c.1 = k then some c.2 else f k
def allF (f : FS) (l : List Ch) : FS := l.foldl putF f
def vsF (f : FS) : FV := fun k => (f k).map Value.string
def none0 : FS := fun _ => none
theorem vsF_put (f : FS) (k : Int) (s : ByteArray) : fput (vsF f) k (.string s) = vsF (putF f (k, s)) := by
  funext c
  unfold fput vsF putF
  split <;> rfl
theorem allF_take (f : FS) (l : List Ch) (i : Nat) (h : i < l.length) : allF f (l.take (i + 1)) = putF (allF f (l.take i)) l[i] := by
  unfold allF
  rw [List.take_succ_eq_append_getElem h, List.foldl_append]
  rfl
theorem allF_append (f : FS) (a b : List Ch) : allF f (a ++ b) = allF (allF f a) b := by unfold allF; rw [List.foldl_append]
def SmallS (f : FS) : Prop := ∀ x, (f x).isSome = true → 0 ≤ x ∧ x < 1024
theorem allF_small : ∀ (l : List Ch) (f : FS), SmallS f → (∀ c ∈ l, 0 ≤ c.1 ∧ c.1 < 1024) → SmallS (allF f l)
  | [], f, hf, _ => hf
  | c :: l, f, hf, h => by
    refine allF_small l (putF f c) (fun x hx => ?_) (fun d hd => h d (List.mem_cons_of_mem _ hd))
    unfold putF at hx
    split at hx
    · rename_i e; rw [← e]; exact h c (List.mem_cons_self ..)
    · exact hf x hx
theorem none_small : SmallS none0 := fun x hx => by simp [none0] at hx
theorem vs_small {f : FS} (h : SmallS f) : Small (vsF f) := fun x hx => h x (by simpa [vsF] using hx)
/-- The changes that a function is, by rising keys. -/
def listF (f : FS) : List Ch := (keysL (vsF f)).map fun k => (k, (f k).getD ⟨#[]⟩)
theorem listF_length (f : FS) : (listF f).length = (keysL (vsF f)).length := by simp [listF]
def merF (a b : List Ch) : FS := allF (allF none0 a) b
def merS (a b : List Ch) : List Ch × Int := if ¬ (right a ∧ right b) then ([], 70) else if 48 < (listF (merF a b)).length then ([], 2) else (listF (merF a b), 0)
end Go.Proofs.Ytofiblkeihchmaa.TxnS
namespace Go.Proofs.Ytofiblkeihchmaa.Txn
open Go.RowKit Go.Proofs.YtofiblkeihchmaaW.PrintWords Go.Proofs.YtofiblkeihchmaaW.PrintLast Go.Proofs.YtofiblkeihchmaaW.PrintMore Go.Proofs.Ytofiblkeihchmaa.TxnS Go.Proofs.Ytofiblkeihchmaa.Keys Go.Proofs.Ytofiblkeihchmaa.Maps
theorem zeroStr (w : World) : (zeroValue 9).run Try.prog w = .ok (.string ⟨#[]⟩) w := by simp [Try.zeroValue9, go_sem]
theorem make_map (W : World) : (Instr.makeMap 45 none).run Try.prog W = .ok (.map (some W.heap.size)) (W.alloc (.map #[] 0)) := by simp [Instr.makeMap, go_sem]
theorem map_len {w : World} {b : Nat} {f : FV} (h : MapF w (Value.int .i64) b f) (hs : Small f) (ty : TypeId) : (Builtin.len_ #[45] ty #[.map (some b)]).run Try.prog w = .ok (.int .i64 (keysL f).length) w := by
  obtain ⟨es, clock, l, h1, h2, h3, h4, h5⟩ := h
  have := (MapIs.len (P := Try.prog) (⟨es, clock, h1, h3⟩ : MapIs w (Value.int .i64) b l) Try.underlying45 ty)
  rw [this, ← (list_keys (w := w) (b := b) (es := es) (clock := clock) h4 h5 hs).length_eq, List.length_map]
set_option maxHeartbeats 1600000 in
set_option maxRecDepth 100000 in
theorem merge_no (a b : List Ch) (A B : Option Addr) (c c' : Nat) (w : World) (ha : Chs w A a) (hb : Chs w B b) (hl1 : a.length ≤ 1125899906842624) (hl2 : b.length ≤ 1125899906842624) (hn : ¬ (right a ∧ right b)) :
    Calls Try.prog 8 #[.slice A a.length c, .slice B b.length c'] w fun e w' => e = .returned (.tuple #[.slice none 0 0, .int .i64 70]) ∧ Below w.heap.size w w' := by
  have HA := Aside0.mk (check_calls a A c w ha hl1)
  have HB := Aside0.mk (fun w1 (h : Below w.heap.size w w1) => check_calls b B c' w1 (hb.below h) hl2)
  by_cases h1 : right a
  · have h2 : ¬ right b := fun h => hn ⟨h1, h⟩
    rw [show chk a = 0 from if_pos h1] at HA
    rw [show chk b = 70 from if_neg h2] at HB
    clear ha hb hn h1 h2
    go_enter Try.func8, Try.ntmps8
    go_wp2_with fail
    refine HA.out.mono ?_
    rintro e w1 ⟨rfl, hB⟩
    have B1 := Aside0.mk hB
    clear hB
    go_wp2_with fail
    refine (HB.out _ B1.out).mono ?_
    rintro e w2 ⟨rfl, hB⟩
    have B2 := Aside0.mk (B1.out.trans (hB.mono B1.out.size))
    clear hB
    go_wp2_with fail
    go_ret2
    exact ⟨rfl, B2.out⟩
  · rw [show chk a = 70 from if_neg h1] at HA
    clear ha hb hn h1
    go_enter Try.func8, Try.ntmps8
    go_wp2_with fail
    refine HA.out.mono ?_
    rintro e w1 ⟨rfl, hB⟩
    have B1 := Aside0.mk hB
    clear hB
    go_wp2_with fail
    go_ret2
    exact ⟨rfl, B1.out⟩
set_option maxHeartbeats 6400000 in
set_option maxRecDepth 100000 in
theorem merge_yes (a b : List Ch) (A B : Option Addr) (c c' : Nat) (w : World) (ha : Chs w A a) (hb : Chs w B b) (hra : right a) (hrb : right b) :
    Calls Try.prog 8 #[.slice A a.length c, .slice B b.length c'] w fun e w' => ∃ v, e = .returned (.tuple #[v, .int .i64 (merS a b).2]) ∧ w'.ownsRow w.heap.size 39 2 v (merS a b).1.length (cv (merS a b).1) ∧ Below w.heap.size w w' := by
  have hu := Try.underlying39
  have hla : a.length ≤ 48 := hra.2
  have hlb : b.length ≤ 48 := hrb.2
  have HA := Aside0.mk (check_calls a A c w ha (by omega))
  have HB := Aside0.mk (fun w1 (h : Below w.heap.size w w1) => check_calls b B c' w1 (hb.below h) (by omega))
  rw [show chk a = 0 from if_pos hra] at HA
  rw [show chk b = 0 from if_pos hrb] at HB
  have HCA := Aside0.mk ha
  have HCB := Aside0.mk hb
  have HFS : Aside0 (∀ i, SmallS (allF none0 ((a ++ b).take i))) := ⟨fun i => allF_small _ _ none_small (fun d hd => by
    have hd2 := List.mem_of_mem_take hd
    rcases List.mem_append.1 hd2 with h | h
    · have := (right_fits hra).2 d h; omega
    · have := (right_fits hrb).2 d h; omega)⟩
  have HRes : Aside0 (merS a b = if 48 < (keysL (vsF (merF a b))).length then ([], 2) else (listF (merF a b), 0)) := ⟨by unfold merS; rw [if_neg (fun h => h ⟨hra, hrb⟩), listF_length]⟩
  clear ha hb hra hrb
  go_enter Try.func8, Try.ntmps8
  go_wp2_with fail
  refine HA.out.mono ?_
  rintro e w1 ⟨rfl, hB⟩
  have B1 := Aside0.mk hB
  clear hB
  go_wp2_with fail
  refine (HB.out _ B1.out).mono ?_
  rintro e w2 ⟨rfl, hB⟩
  have B2 := Aside0.mk (B1.out.trans (hB.mono B1.out.size))
  clear hB HA HB B1
  have hmk := make_map w2
  go_upto_region 4 with fail
  clear hmk
  have M3 := Aside0.mk (MapF.made (kv := Value.int .i64) w2)
  have B3 := Aside0.mk (below_alloc B2.out (.map #[] 0))
  generalize hW3 : w2.alloc (.map #[] 0) = W3 at M3 B3 ⊢
  have HMB : Aside0 (w.heap.size ≤ w2.heap.size ∧ w2.heap.size < W3.heap.size) := ⟨B2.out.size, by rw [← hW3]; simp⟩
  clear hW3 B2
  generalize w2.heap.size = mb at M3 HMB ⊢
  have P4 := Aside0.mk (blk_new W3 (.cells #[.slice A a.length c, .slice B b.length c'] 22))
  have B4' := Aside0.mk (below_alloc (Below.refl W3.heap.size W3) (.cells #[.slice A a.length c, .slice B b.length c'] 22))
  have B4 := Aside0.mk (B3.out.trans (B4'.out.mono B3.out.size))
  have HCc := Aside0.mk (concat_calls a b A B c c' W3.heap.size _ (HCA.out.below B4.out) (HCB.out.below B4.out) (by omega) (by omega) P4.out)
  have M4 := Aside0.mk (M3.out.of_block (B4'.out.block mb HMB.out.2))
  have HS4 : Aside0 (mb < (W3.alloc (.cells #[.slice A a.length c, .slice B b.length c'] 22)).heap.size) := ⟨M4.out.lt⟩
  go_wp2_with fail
  refine HCc.out.mono ?_
  rintro e w5 ⟨v24, rfl, hr, hb⟩
  obtain ⟨A24, c24, rfl⟩ := own_slice hr
  have R5 : Aside0 (w5.ownsRow w.heap.size 39 2 (.slice A24 (a ++ b).length c24) (a ++ b).length (cv (a ++ b))) := ⟨⟨hr.1, by
    rcases hr.2 with hh | ⟨g, cap, cur, e, hb', hrest⟩
    · exact .inl hh
    · exact .inr ⟨g, cap, cur, e, Nat.le_trans B4.out.size hb', hrest⟩⟩⟩
  have B5 := Aside0.mk (B4.out.trans (hb.mono B4.out.size))
  have M5 := Aside0.mk (M4.out.of_block (hb.block mb HS4.out))
  clear hr hb HCc M4 M3 B3 B4 B4' P4 HS4
  obtain ⟨l, hl⟩ : ∃ l, l = a ++ b := ⟨_, rfl⟩
  have hll : l.length ≤ 96 := by rw [hl, List.length_append]; omega
  have HMer : Aside0 (merF a b = allF none0 (l.take l.length)) := ⟨by rw [List.take_length, hl, allF_append]; rfl⟩
  have hlen2 : (a ++ b).length = l.length := by rw [hl]
  rw [← hl] at R5 HFS
  rw [List.length_append] at hlen2
  clear hl
  go_upto_region 5 with fail
  have R5' := R5
  clear hlen2 R5
  have M0 : Aside0 (MapF w5 (Value.int .i64) mb (vsF (allF none0 (l.take 0)))) := ⟨by
    have e : vsF (allF none0 (l.take 0)) = fun _ => none := by funext k; rfl
    rw [e]; exact M5.out⟩
  clear M5
  go_loopw [26] (fun v26 wr => ∃ i : Nat, i ≤ l.length ∧ v26 = .int .i64 (i : Int) ∧ Aside0 (MapF wr (Value.int .i64) mb (vsF (allF none0 (l.take i)))) ∧ Aside0 (wr.ownsRow w.heap.size 39 2 (.slice A24 l.length c24) l.length (cv l)) ∧ Aside0 (Below w.heap.size w wr)) (fun x _ => l.length - (intOf x).toNat)
  case atStart => exact ⟨0, by omega, rfl, M0, R5', B5⟩
  case round =>
    clear M0 R5' B5
    obtain ⟨i, hi, rfl, HM, HR, HBl⟩ := hrel
    by_cases hlt : i < l.length
    · obtain ⟨ad, rfl, e0, e1⟩ := (own_chs HR.out rfl) i hlt
      have ht := allF_take none0 l i hlt
      generalize l[i] = x at e0 e1 ht
      obtain ⟨k, s⟩ := x
      have HT := Aside0.mk ht
      clear ht
      dsimp only at e0 e1
      have P1 := Aside0.mk (blk_new wr (.cells #[.int .i64 k, .string s] 39))
      have B1 := Aside0.mk (below_alloc (Below.refl wr.heap.size wr) (.cells #[.int .i64 k, .string s] 39))
      go_upto_region 7 with fail
      generalize hW : wr.alloc (.cells #[.int .i64 k, .string s] 39) = W1 at P1 B1 ⊢
      clear hW e0 e1
      have p0 := (blk_cell P1.out 0).trans (Eq.refl (some (Value.int .i64 k)))
      have p1 := (blk_cell P1.out 1).trans (Eq.refl (some (Value.string s)))
      obtain ⟨w2', hrun, hm2, hg2, hs2⟩ := (HM.out.of_block (w' := W1) (B1.out.block mb HM.out.lt)).update (KeyLaw.int Try.underlying3) Try.underlying45 k (.string s)
      have M2 : Aside0 (MapF w2' (Value.int .i64) mb (vsF (allF none0 (l.take (i + 1))))) := ⟨by rw [HT.out, ← vsF_put]; exact hm2⟩
      have R1 := Aside0.mk (pw_own_below HR.out B1.out)
      have HNE : Aside0 (Value.ownBlock (.slice (some ad) l.length c24) ≠ some mb) := ⟨fun hk => by
        obtain ⟨es, cl, ll, h1, _⟩ := HM.out
        rcases HR.out.2 with ⟨h2, _⟩ | ⟨g, cap, cur, h2, _, hg, _⟩
        · simp at h2
        · rw [h2] at hk
          have e : g = mb := by simpa [Value.ownBlock] using hk
          subst e
          rw [h1] at hg
          simp at hg⟩
      have R2 := Aside0.mk (R1.out.kept hg2 (.inr HNE.out))
      have B2 := Aside0.mk ((HBl.out.trans (B1.out.mono HBl.out.size)).grown hg2 (Nat.le_trans HBl.out.size B1.out.size) (fun j hj => by cases hj; exact HMB.out.1))
      clear hm2 hg2 hs2
      go_wp2_with fail
      go_roundw
      case rel => exact ⟨i + 1, by omega, by simp, M2, R2, B2⟩
      case measure => simp [intOf]; omega
    · obtain rfl : i = l.length := by omega
      have hM := HM.out
      rw [← HMer.out] at hM
      have hsm : SmallS (merF a b) := by rw [HMer.out]; exact HFS.out _
      have HSm := Aside0.mk (vs_small hsm)
      have HM2 := Aside0.mk hM
      have hlen := map_len hM (vs_small hsm)
      clear HM HR hM hsm hlt hi HMer HFS
      by_cases g48 : 48 < (keysL (vsF (merF a b))).length
      · have q : decide (48 < (keysL (vsF (merF a b))).length) = true := decide_eq_true g48
        have HRe : Aside0 (merS a b = ([], 2)) := ⟨by rw [HRes.out, if_pos g48]⟩
        generalize keysL (vsF (merF a b)) = ks at hlen q g48
        go_wp2_with fail
        go_ret2
        exact ⟨.slice none 0 0, by rw [HRe.out]; rfl, by rw [HRe.out]; exact own_nil _ _ _ _, HBl.out⟩
      · have q : decide (48 < (keysL (vsF (merF a b))).length) = false := decide_eq_false g48
        have HRe : Aside0 (merS a b = (listF (merF a b), 0)) := ⟨by rw [HRes.out, if_neg g48]⟩
        have HKC := Aside0.mk (keys_calls (some mb) wr)
        have BX := Aside0.mk (below_alloc (Below.refl wr.heap.size wr) (.cells #[.map (some mb)] 45))
        have HSC := Aside0.mk (sorted_calls (wr.alloc (.cells #[.map (some mb)] 45)) mb wr.heap.size _ (HM2.out.of_block (BX.out.block mb HM2.out.lt)) HSm.out ((blk_cell (blk_new wr _) 0).trans rfl) (by simp))
        have HLF : Aside0 (∀ i (h : i < (keysL (vsF (merF a b))).length), (listF (merF a b)).take (i + 1) = (listF (merF a b)).take i ++ [((keysL (vsF (merF a b)))[i], ((merF a b) (keysL (vsF (merF a b)))[i]).getD ⟨#[]⟩)]) := ⟨fun i h => by
          rw [List.take_succ_eq_append_getElem (by rw [listF_length]; exact h)]
          simp [listF]⟩
        have HLen : Aside0 ((listF (merF a b)).length = (keysL (vsF (merF a b))).length) := ⟨listF_length _⟩
        have HIn : Aside0 (∀ i (h : i < (keysL (vsF (merF a b))).length), (vsF (merF a b) (keysL (vsF (merF a b)))[i]).isSome = true) := ⟨fun i h => (keysL_mem HSm.out _).1 (List.getElem_mem h)⟩
        obtain ⟨F, hF⟩ : ∃ F, F = merF a b := ⟨_, rfl⟩
        rw [← hF] at HSC HLF HLen HIn HM2 HRe hlen g48 q
        clear hF HRes HSm
        generalize keysL (vsF F) = ks at HSC HLF HLen HIn hlen g48 q
        go_wp2_with fail
        refine HKC.out.mono ?_
        rintro e w6 ⟨rfl, rfl⟩
        clear hlen
        go_wp2_with fail
        refine HSC.out.mono ?_
        rintro e w7 ⟨v41, rfl, hr, hb⟩
        obtain ⟨A41, c41, rfl⟩ := own_slice hr
        have B7' := Aside0.mk (BX.out.trans (hb.mono BX.out.size))
        have B7 := Aside0.mk (HBl.out.trans (B7'.out.mono HBl.out.size))
        have M7 := Aside0.mk (HM2.out.of_block (B7'.out.block mb HM2.out.lt))
        have R7 := Aside0.mk hr
        clear hr hb HKC HSC BX HM2 HBl B7'
        go_wp2_with fail
        go_loopw [9, 43] (fun v9 v43 wq => ∃ i : Nat, i ≤ ks.length ∧ v43 = .int .i64 (i : Int) ∧ Aside0 (wq.ownsRow w7.heap.size 39 2 v9 i (cv ((listF F).take i))) ∧ Aside0 (Below w7.heap.size w7 wq)) (fun _ x _ => ks.length - (intOf x).toNat)
        case atStart => exact ⟨0, by omega, rfl, ⟨own_nil _ _ _ _⟩, ⟨Below.refl _ _⟩⟩
        case round =>
          obtain ⟨i, hi, rfl, HR, HBq⟩ := hrel
          have hkl : ks.length ≤ 48 := by omega
          by_cases hlt : i < ks.length
          · obtain ⟨g, rfl⟩ : ∃ g, A41 = some ⟨g, 0, none⟩ := by
              rcases R7.out.2 with ⟨h1, h2⟩ | ⟨g, cap, cur, h1, _⟩
              · simp at h1
                omega
              · simp at h1
                exact ⟨g, h1.1⟩
            have R8 := Aside0.mk (pw_own_below R7.out HBq.out)
            have e0 := (R8.out.cellAt i (by omega)).trans (show (ks.map (Value.int .i64))[i]? = some (.int .i64 ks[i]) by simp [hlt])
            have ht := HLF.out i hlt
            have hin := HIn.out i hlt
            generalize ks[i] = k at e0 ht hin
            obtain ⟨s, hs⟩ : ∃ s, F k = some s := by
              unfold vsF at hin
              rw [Option.isSome_map] at hin
              exact Option.isSome_iff_exists.1 hin
            have hlk := (M7.out.of_block (HBq.out.block mb M7.out.lt)).lookup (KeyLaw.int Try.underlying3) Try.underlying45 (zeroStr wr) k
            have hv : (vsF F k).getD (.string ⟨#[]⟩) = .string s := by unfold vsF; rw [hs]; rfl
            rw [hv] at hlk
            rw [hs, Option.getD_some] at ht
            have HT := Aside0.mk ht
            clear ht hin hs hv R8
            have hml : (i + 1) * 24 ≤ 140737488355328 := by omega
            go_wp2_with (at_builtin; refine print_append_cells w7.heap.size rfl (.tmp 47) (.tmp 53) 22 39 (.agg #[.int .i64 0, .string ⟨#[]⟩]) 2 24 rfl Try.underlying22 infoCh rfl (by decide) (by decide) _ _ _ [.int .i64 k, .string s] rfl rfl rfl (by intro u hu; simp at hu; rcases hu with rfl | rfl <;> rfl) HR.out HBq.out HBq.out.size hml ?_; intro v8 w8 hr8 hb8 _ _; have R8 := Aside0.mk hr8; have B8 := Aside0.mk hb8; clear hr8 hb8)
            go_roundw
            case rel => exact ⟨i + 1, by omega, by simp, ⟨by rw [HT.out, cv_append]; exact R8.out⟩, B8⟩
            case measure => simp [intOf]; omega
          · obtain rfl : i = ks.length := by omega
            have hR := HR.out
            rw [show (listF F).take ks.length = listF F by rw [← HLen.out, List.take_length]] at hR
            have R9 : Aside0 (wr.ownsRow w.heap.size 39 2 u9 ks.length (cv (listF F))) := ⟨⟨hR.1, by
              rcases hR.2 with hh | ⟨g, cap, cur, rfl, hb', hrest⟩
              · exact .inl hh
              · exact .inr ⟨g, cap, cur, rfl, Nat.le_trans B7.out.size hb', hrest⟩⟩⟩
            clear hR
            go_wp2_with fail
            go_ret2
            exact ⟨_, by rw [HRe.out]; rfl, by rw [HRe.out]; dsimp only; rw [HLen.out]; exact R9.out, B7.out.trans (HBq.out.mono B7.out.size)⟩
theorem merge_calls (a b : List Ch) (A B : Option Addr) (c c' : Nat) (w : World) (ha : Chs w A a) (hb : Chs w B b) (hl1 : a.length ≤ 1125899906842624) (hl2 : b.length ≤ 1125899906842624) :
    Calls Try.prog 8 #[.slice A a.length c, .slice B b.length c'] w fun e w' => ∃ v, e = .returned (.tuple #[v, .int .i64 (merS a b).2]) ∧ w'.ownsRow w.heap.size 39 2 v (merS a b).1.length (cv (merS a b).1) ∧ Below w.heap.size w w' := by
  by_cases h : right a ∧ right b
  · exact merge_yes a b A B c c' w ha hb h.1 h.2
  · have e : merS a b = ([], 70) := by unfold merS; rw [if_pos h]
    rw [e]
    refine (merge_no a b A B c c' w ha hb hl1 hl2 h).mono ?_
    rintro e w' ⟨rfl, hB⟩
    exact ⟨_, rfl, own_nil _ _ _ _, hB⟩
end Go.Proofs.Ytofiblkeihchmaa.Txn
