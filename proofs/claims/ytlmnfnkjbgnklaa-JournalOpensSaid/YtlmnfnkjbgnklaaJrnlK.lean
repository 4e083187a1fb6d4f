/- A block of one letter. speaks, of the journal. -/
import Derived.Test.YtlmnfnkjbgnklaaProg
import Derived.Test.YtlmnfnkjbgnklaaWMore
import Derived.Laws.BytesArg
import Derived.Outline
import Derived.Test.YtlmnfnkjbgnklaaJrnlA
section
/- A block of one letter. -/
set_option linter.unusedVariables false
set_option linter.unusedSimpArgs false
namespace Go.Proofs.Ytlmnfnkjbgnklaa.Blk
open Go.RowKit Go.Proofs.YtlmnfnkjbgnklaaW.PrintWords Go.Proofs.YtlmnfnkjbgnklaaW.PrintLast Go.Proofs.YtlmnfnkjbgnklaaW.PrintMore

theorem info5 : (Try.prog.info? 5).map (fun i => (i.zero, i.size, i.bytes)) = some (some (.int .u8 0), 1, 1) := by kernel_rfl
def blockB (c : Int) : ByteArray := strOfNums (List.replicate 128 c)
theorem blockB_size (c : Int) : (blockB c).size = 128 := by unfold blockB; rw [strOfNums_size, List.length_replicate]
/-- i letters are laid. -/
def filled (c : Int) (i : Nat) : List Int := List.replicate i c ++ List.replicate (128 - i) 0
theorem filled_length (c : Int) (i : Nat) (h : i ≤ 128) : (filled c i).length = 128 := by simp [filled]; omega
theorem filled_set (c : Int) (i : Nat) (h : i < 128) : (filled c i).set i c = filled c (i + 1) := by
  unfold filled
  obtain ⟨m, hm⟩ : ∃ m, 128 - i = m + 1 := ⟨127 - i, by omega⟩
  rw [hm, show 128 - (i + 1) = m by omega, List.set_append_right _ _ (by simp), List.replicate_succ]
  simp [List.replicate_succ']
theorem nums_get (k : IntKind) (l : List Int) (j : Nat) (h : j < l.length) : (nums k l).toArray[j]? = some (.int k (l.getD j 0)) := by
  simp [nums, List.getElem?_eq_getElem h]
theorem filled_all (c : Int) : filled c 128 = List.replicate 128 c := by unfold filled; rw [Nat.sub_self, List.replicate_zero, List.append_nil]
set_option maxHeartbeats 800000 in
set_option maxRecDepth 100000 in
theorem block_any (c : Int) (w : World) : Calls Try.prog 29 #[.int .u8 c] w fun e w' => e = .returned (.string (blockB c)) ∧ Below w.heap.size w w' := by
  have km := print_make (P := Try.prog) 100 5 .u8 1 Try.underlying100 info5 (by decide) 128 (by omega)
  have P0 := Aside0.mk (blk_new w (.cells (nums .u8 (filled c 0)).toArray 5))
  have hm : madeCells #[Value.int .u8 0] 128 = (nums .u8 (filled c 0)).toArray := by kernel_rfl
  rw [hm] at km
  clear hm
  replace km : ∀ W : World, (Instr.makeSlice 100 (.int .i64 128) (.int .i64 128)).run Try.prog W = .ok (.slice (some ⟨W.heap.size, 0, none⟩) 128 128) (W.alloc (.cells (nums .u8 (filled c 0)).toArray 5)) := km
  go_enter Try.func29, Try.ntmps29
  go_wp2
  go_loopw [8] (fun v8 wr => ∃ i : Nat, i ≤ 128 ∧ v8 = .int .i64 (i : Int) ∧ Aside0 (wr.heap[w.heap.size]? = some (.cells (nums .u8 (filled c i)).toArray 5 (0, 0))) ∧ Aside0 (Below w.heap.size w wr)) (fun v _ => 128 - (intOf v).toNat)
  case atStart => exact ⟨0, by omega, rfl, P0, ⟨below_alloc (Below.refl _ _) _⟩⟩
  case round =>
    obtain ⟨i, hi, rfl, HP, HB⟩ := hrel
    by_cases hlt : i < 128
    · have k1 := blk_cell HP.out i
      have k2 := blk_frozen HP.out i
      have k3 := nums_get .u8 (filled c i) i (by rw [filled_length c i hi]; exact hlt)
      rw [k3] at k1
      clear k3
      go_wp2
      go_roundw
      case rel => exact ⟨i + 1, by omega, by simp, ⟨by
        rw [blk_set HP.out i _, ← filled_set c i hlt]
        simp [nums]⟩, ⟨HB.out.setCell (Nat.le_refl _) _⟩⟩
      case measure => simp [intOf]; omega
    · obtain rfl : i = 128 := by omega
      have kb := run_convert_bytes_arg (P := Try.prog) wr 100 5 Try.underlying100 Try.underlying5 w.heap.size 0 128 128 (List.replicate 128 c) List.length_replicate (fun j hj => by
        rw [Nat.zero_add, blk_cell HP.out j]
        rw [filled_all, nums_get .u8 _ j (by rw [List.length_replicate]; exact hj)]) 9 Try.underlying9
      go_wp2
      go_ret
      exact ⟨rfl, HB.out⟩
def cartularylaw07_block.f (c : Int) : Option ByteArray := some (blockB c)
theorem cartularylaw07_block.calls (a0 : Int) (r : ByteArray) (w : World) (h : cartularylaw07_block.f a0 = some r) :
    Calls Try.prog 29 #[.int .u8 a0] w fun e w' => e = .returned (.string r) ∧ Below w.heap.size w w' := by
  rw [← Option.some.inj h]
  exact block_any a0 w
end Go.Proofs.Ytlmnfnkjbgnklaa.Blk
end

section
/- speaks, of the journal. -/
set_option linter.unusedVariables false
set_option linter.unusedSimpArgs false
namespace Go.Proofs.Ytlmnfnkjbgnklaa.Jrnl
open Go.RowKit Go.Proofs.YtlmnfnkjbgnklaaW.PrintWords Go.Proofs.YtlmnfnkjbgnklaaW.PrintLast Go.Proofs.YtlmnfnkjbgnklaaW.PrintMore Go.Proofs.Ytlmnfnkjbgnklaa.TxnS Go.Proofs.Ytlmnfnkjbgnklaa.Txn Go.Proofs.Ytlmnfnkjbgnklaa.JS Go.Proofs.Ytlmnfnkjbgnklaa.Run Go.Proofs.Ytlmnfnkjbgnklaa.Blk
theorem chs_new (W : World) (l : List Ch) (hl : l.length ≤ 1000) : Chs (W.alloc (.cells (cv l).toArray 69)) (some ⟨W.heap.size, 0, none⟩) l := by
  have r1 := World.ownsRow_lit (e := 69) (base := 0) (size := 2) W (cv l).toArray l.length (Nat.zero_le _) (by unfold maxLen; omega) (by simp [cv_length])
  exact own_chs r1 rfl
def kA : List Ch := [(2, blockB 97)]
def kF : List Ch := [(2, blockB 97), (3, blockB 97), (4, blockB 97), (5, blockB 97), (6, blockB 97)]
theorem kA_right : right kA := ⟨⟨by decide, by decide, blockB_size 97, trivial⟩, by decide⟩
theorem kF_right : right kF := ⟨⟨by decide, by decide, blockB_size 97, by decide, by decide, blockB_size 97, by decide, by decide, blockB_size 97, by decide, by decide, blockB_size 97, by decide, by decide, blockB_size 97, trivial⟩, by decide⟩
def k1 : Jr := ⟨7, 0, 1, 0, [2]⟩
def k2 : Jr := ⟨7, 0, 1, 1, [2]⟩
def k3 : Jr := ⟨7, 2, 2, 0, []⟩
theorem k0_ok : JW (newJ 8) := newJ_ok (by decide) (by decide)
theorem k1_ok : JW k1 := pushJ_ok k0_ok 1 (by decide)
theorem k2_ok : JW k2 := sealJ_ok k1_ok
theorem k3_ok : JW k3 := doneJ_ok k2_ok 1 (by decide)
theorem k_a1 : appJ (newJ 8) kA = ([(1, headS 1 kA), (2, blockB 97)], 0, k1) := by
  unfold appJ
  rw [if_neg (fun e => e kA_right), if_neg (fun e => e (by decide))]
  rfl
theorem k_a2 : appJ k1 kF = ([], 5, k1) := by
  unfold appJ
  rw [if_neg (fun e => e kF_right), if_pos (by decide)]
theorem k_s : sealJ k1 = k2 := rfl
theorem k_d : doneJ k2 1 = k3 := rfl
/-- A journal and a list of writes, side by side. -/
structure KS (W w : World) (jb : Nat) (v u : Value) (J : Jr) (l : List Ch) : Prop where
  j : JIs W.heap.size w jb v J
  uu : w.ownsRow W.heap.size 42 2 u l.length (cv l)
  b : Below W.heap.size W w
  d : ∀ k, u.ownBlock = some k → ¬ fp jb v k
theorem KS.below {W w w' : World} {jb : Nat} {v u : Value} {J : Jr} {l : List Ch} (h : KS W w jb v u J l) (hb : Below w.heap.size w w') : KS W w' jb v u J l := ⟨h.j.below hb, pw_own_below h.uu hb, h.b.trans (hb.mono h.b.size), h.d⟩
theorem KS.post {W w w' : World} {jb : Nat} {v u r : Value} {J J' : Jr} {l : List Ch} {e : Ending} (h : KS W w jb v u J l) (hp : JPost W.heap.size jb v w r J' e w') : ∃ v', e = .returned r ∧ KS W w' jb v' u J' l := by
  obtain ⟨v', he, hj, hf, hp⟩ := hp
  refine ⟨v', he, hj, own_step h.uu fun k hk => hf.block k (own_lt h.uu k hk) (h.d k hk), Fr.below h.b hf (fun k hk => h.j.ge hk) h.b.size, fun k hk hf => ?_⟩
  rcases hp k hf with h1 | h1
  · exact h.d k hk h1
  · have := own_lt h.uu k hk
    omega
theorem KS.cell {W w : World} {jb : Nat} {u : Value} {v : Value} {J : Jr} {a b : Ch} (h : KS W w jb v u J [a, b]) : ∃ g c, u = .slice (some ⟨g, 0, none⟩) 2 c ∧ ∀ w', Below w.heap.size w w' → w'.cell? ⟨g, 2, none⟩ = some (.int .i64 b.1) := by
  rcases h.uu.2 with ⟨_, h0⟩ | ⟨g, cap, cur, hv, _, hg, h1, _, h2, h3⟩
  · simp at h0
  · refine ⟨g, cap, hv, fun w' hb => ?_⟩
    have hu := pw_own_below h.uu hb
    subst hv
    exact (World.ownsRow.cellAt hu 2 (by show 2 < 2 * 2; decide)).trans rfl
set_option maxHeartbeats 6400000 in
set_option maxRecDepth 100000 in
theorem speaks_calls (w : World) : Calls Try.prog 10 #[] w fun e w' => e = .returned (.bool true) ∧ Below w.heap.size w w' := by
  have hu := Try.underlying69
  have huw := Try.underlying42
  have HBk := fun w => Aside0.mk (block_any 97 w)
  go_enter Try.func10, Try.ntmps10
  go_wp2_with fail
  refine (new_yes 8 _ (by decide) (by decide)).mono ?_
  rintro e w1 ⟨jb, rfl, hJ, hB⟩
  have J1 := Aside0.mk hJ
  have B1 := Aside0.mk hB
  clear hJ hB
  unfold ptr
  go_wp2_with fail
  refine (HBk _).out.mono ?_
  rintro e w2 ⟨rfl, hB⟩
  have J2 := Aside0.mk (J1.out.below hB)
  have B2 := Aside0.mk (B1.out.trans (hB.mono B1.out.size))
  clear hB J1 B1
  have C2 : Aside0 (Chs (w2.alloc (.cells #[.int .i64 2, .string (blockB 97)] 69)) (some ⟨w2.heap.size, 0, none⟩) kA) := ⟨chs_new w2 kA (by decide)⟩
  have B3 := Aside0.mk (below_alloc B2.out (.cells #[.int .i64 2, .string (blockB 97)] 69))
  have J3 := Aside0.mk (J2.out.below (below_alloc (Below.refl w2.heap.size w2) (.cells #[.int .i64 2, .string (blockB 97)] 69)))
  have HA := Aside0.mk (append_calls J3.out k0_ok B3.out.size kA _ 1 C2.out (by decide))
  rw [k_a1] at HA
  have L1 : kA.length = 1 := rfl
  rw [L1] at HA
  unfold ptr at HA
  clear L1 J2 B2
  go_wp2_with fail
  generalize hW : w2.alloc (.cells #[.int .i64 2, .string (blockB 97)] 69) = w3 at C2 B3 J3 HA ⊢
  clear hW
  refine HA.out.mono ?_
  rintro e w4 ⟨u4, v4, rfl, hU, hJ, hF, hP, hD⟩
  dsimp only at hU hJ
  obtain ⟨A4, c4, rfl⟩ := own_slice hU
  have K4 : Aside0 (KS w w4 jb v4 (.slice A4 2 c4) k1 [(1, headS 1 kA), (2, blockB 97)]) := ⟨⟨hJ, own_mono hU B3.out.size, Fr.below B3.out hF (fun k hk => J3.out.ge hk) B3.out.size, hD⟩⟩
  clear hU hJ hF hP hD HA C2 J3 B3
  go_wp2_with fail
  refine (HBk _).out.mono ?_
  rintro e w5 ⟨rfl, hB⟩
  have K5 := Aside0.mk (K4.out.below hB)
  clear hB K4
  go_wp2_with fail
  refine (HBk _).out.mono ?_
  rintro e w6 ⟨rfl, hB⟩
  have K6 := Aside0.mk (K5.out.below hB)
  clear hB K5
  go_wp2_with fail
  refine (HBk _).out.mono ?_
  rintro e w7 ⟨rfl, hB⟩
  have K7 := Aside0.mk (K6.out.below hB)
  clear hB K6
  go_wp2_with fail
  refine (HBk _).out.mono ?_
  rintro e w8 ⟨rfl, hB⟩
  have K8 := Aside0.mk (K7.out.below hB)
  clear hB K7
  go_wp2_with fail
  refine (HBk _).out.mono ?_
  rintro e w9 ⟨rfl, hB⟩
  have K9 := Aside0.mk (K8.out.below hB)
  clear hB K8
  have C9 : Aside0 (Chs (w9.alloc (.cells #[.int .i64 2, .string (blockB 97), .int .i64 3, .string (blockB 97), .int .i64 4, .string (blockB 97), .int .i64 5, .string (blockB 97), .int .i64 6, .string (blockB 97)] 69)) (some ⟨w9.heap.size, 0, none⟩) kF) := ⟨chs_new w9 kF (by decide)⟩
  have K10 := Aside0.mk (K9.out.below (below_alloc (Below.refl w9.heap.size w9) (.cells #[.int .i64 2, .string (blockB 97), .int .i64 3, .string (blockB 97), .int .i64 4, .string (blockB 97), .int .i64 5, .string (blockB 97), .int .i64 6, .string (blockB 97)] 69)))
  have HA := Aside0.mk (append_no2 K10.out.j k1_ok kF _ 5 C9.out kF_right (by decide))
  have L1 : kF.length = 5 := rfl
  rw [L1] at HA
  unfold ptr at HA
  clear L1 K9
  go_wp2_with fail
  generalize hW : w9.alloc (.cells #[.int .i64 2, .string (blockB 97), .int .i64 3, .string (blockB 97), .int .i64 4, .string (blockB 97), .int .i64 5, .string (blockB 97), .int .i64 6, .string (blockB 97)] 69) = w10 at C9 K10 HA ⊢
  clear hW
  refine HA.out.mono ?_
  rintro e w11 ⟨rfl, hB⟩
  have K11 := Aside0.mk (K10.out.below hB)
  clear hB K10 HA C9
  have HD := Aside0.mk (done_no K11.out.j 1 (.inr (by decide)))
  unfold ptr at HD
  go_wp2_with fail
  refine HD.out.mono ?_
  rintro e w12 ⟨rfl, hB⟩
  have K12 := Aside0.mk (K11.out.below hB)
  clear hB K11 HD
  go_upto_region 7 with fail
  have K13 := Aside0.mk (K12.out.below (below_alloc (Below.refl w12.heap.size w12) (.cells #[.int .i64 0, .string ⟨#[]⟩] 42)))
  generalize w12.alloc (.cells #[.int .i64 0, .string ⟨#[]⟩] 42) = w13 at K13 ⊢
  have HF := Aside0.mk (free_calls K13.out.j k1_ok)
  rw [show k1.ring - ((k1.sizes.sum : Nat) : Int) = 5 from rfl] at HF
  unfold ptr at HF
  clear K12
  go_wp2_with fail
  refine HF.out.mono ?_
  rintro e w14 ⟨rfl, hB⟩
  have K14 := Aside0.mk (K13.out.below hB)
  clear hB K13 HF
  have HS := Aside0.mk (seal_calls K14.out.j k1_ok)
  rw [k_s] at HS
  generalize h2 : headJ k2 = hd2 at HS
  unfold ptr at HS
  go_wp2_with fail
  refine HS.out.mono ?_
  intro e w15 hp
  obtain ⟨v15, rfl, hk⟩ := K14.out.post hp
  have K15 := Aside0.mk hk
  clear hp hk K14 HS
  go_upto_region 9 with fail
  have P16 := Aside0.mk (blk_new w15 (.cells #[.int .i64 0, .string hd2] 42))
  have K16 := Aside0.mk (K15.out.below (below_alloc (Below.refl w15.heap.size w15) (.cells #[.int .i64 0, .string hd2] 42)))
  generalize w15.alloc (.cells #[.int .i64 0, .string hd2] 42) = w16 at P16 K16 ⊢
  clear K15
  have HH : Aside0 (∀ W, Below w16.heap.size w16 W → Calls Try.prog 19 #[.pointer (some ⟨jb, 0, none⟩)] W fun e w' => e = .returned (.string hd2) ∧ Below W.heap.size W w') := ⟨fun W hb => by
    have := header_calls (K16.out.below hb).j k2_ok.hw
    rwa [h2] at this⟩
  have HC : Aside0 (∀ W, Below w16.heap.size w16 W → W.cell? ⟨w15.heap.size, 1, none⟩ = some (.string hd2)) := ⟨fun W hb => (blk_cell ((hb.block _ (blk_lt P16.out)).trans P16.out) 1).trans rfl⟩
  have qn : (hd2.toList == hd2.toList) = true := by simp
  have B0 : Aside0 (Below w16.heap.size w16 w16.drew) := ⟨below_drew1 (Below.refl _ _)⟩
  clear h2
  go_cut [11] (fun v11 wc => v11 = .bool true ∧ Aside0 (Below w16.heap.size w16 wc))
  case first =>
    go_region_held3 (fun w' => w'.cell? ⟨w15.heap.size, 1, none⟩ = some (.string hd2)) (first | exact HC.out _ B0.out | exact HC.out _ B17.out) (first
      | (go_at_call 19; refine (HH.out _ B0.out).mono ?_; rintro e w17 ⟨rfl, hB⟩; have B17 := Aside0.mk (B0.out.trans (hB.mono B0.out.size)); clear hB))
    all_goals
      go_wp2_with fail
      go_meet
      case rel => exact ⟨rfl, B17⟩
  case rest =>
    obtain ⟨rfl, B17⟩ := hcut
    have K17 := Aside0.mk (K16.out.below B17.out)
    clear K16 B17 HH HC B0 P16
    have HD := Aside0.mk (done_yes K17.out.j k2_ok 1 (by decide))
    rw [k_d] at HD
    generalize h3 : headJ k3 = hd3 at HD
    unfold ptr at HD
    go_wp2_with fail
    refine HD.out.mono ?_
    intro e w18 hp
    obtain ⟨v18, rfl, hk⟩ := K17.out.post hp
    have K18 := Aside0.mk hk
    clear hp hk K17 HD
    go_upto_region 11 with fail
    have P19 := Aside0.mk (blk_new w18 (.cells #[.int .i64 0, .string hd3] 42))
    have K19 := Aside0.mk (K18.out.below (below_alloc (Below.refl w18.heap.size w18) (.cells #[.int .i64 0, .string hd3] 42)))
    generalize w18.alloc (.cells #[.int .i64 0, .string hd3] 42) = w19 at P19 K19 ⊢
    generalize w18.heap.size = g19 at P19 ⊢
    clear K18
    have HC := Aside0.mk (count_calls K19.out.j)
    rw [show (k3.sizes.length : Int) = 0 from rfl, show k3.sealed = 0 from rfl] at HC
    unfold ptr at HC
    go_wp2_with fail
    refine HC.out.mono ?_
    rintro e w20 ⟨rfl, hB⟩
    have K20 := Aside0.mk (K19.out.below hB)
    have P20 := Aside0.mk ((hB.block _ (blk_lt P19.out)).trans P19.out)
    clear hB K19 P19 HC
    obtain ⟨gU, cU, eU, hU⟩ := K20.out.cell
    simp only [Value.slice.injEq] at eU
    obtain ⟨rfl, -, rfl⟩ := eU
    have HCx : Aside0 (∀ W, Below w20.heap.size w20 W → W.cell? ⟨gU, 2, none⟩ = some (.int .i64 2) ∧ W.cell? ⟨g19, 0, none⟩ = some (.int .i64 0) ∧ W.cell? ⟨g19, 1, none⟩ = some (.string hd3)) := ⟨fun W hb => ⟨hU W hb, (blk_cell ((hb.block _ (blk_lt P20.out)).trans P20.out) 0).trans rfl, (blk_cell ((hb.block _ (blk_lt P20.out)).trans P20.out) 1).trans rfl⟩⟩
    have HH : Aside0 (∀ W, Below w20.heap.size w20 W → Calls Try.prog 19 #[.pointer (some ⟨jb, 0, none⟩)] W fun e w' => e = .returned (.string hd3) ∧ Below W.heap.size W w') := ⟨fun W hb => by
      have := header_calls (K20.out.below hb).j k3_ok.hw
      rwa [h3] at this⟩
    have HN : Aside0 (∀ W, Below w20.heap.size w20 W → Calls Try.prog 23 #[.pointer (some ⟨jb, 0, none⟩)] W fun e w' => e = .returned (.int .i64 2) ∧ Below W.heap.size W w') := ⟨fun W hb => next_calls (K20.out.below hb).j (by decide) (by decide) (by decide)⟩
    have B0 : Aside0 (Below w20.heap.size w20 w20.drew) := ⟨below_drew1 (Below.refl _ _)⟩
    have qn : (hd3.toList == hd3.toList) = true := by simp
    have HB := Aside0.mk K20.out.b
    clear h3 hU K20 P20
    go_wp2_with fail
    go_region_held3 (fun w' => w'.cell? ⟨gU, 2, none⟩ = some (.int .i64 2) ∧ w'.cell? ⟨g19, 0, none⟩ = some (.int .i64 0) ∧ w'.cell? ⟨g19, 1, none⟩ = some (.string hd3)) (first | exact HCx.out _ B0.out | exact HCx.out _ B21.out | exact HCx.out _ B22.out) (first
      | (go_at_call 19; refine (HH.out _ B0.out).mono ?_; rintro e w21 ⟨rfl, hB⟩; have B21 := Aside0.mk (B0.out.trans (hB.mono B0.out.size)); clear hB)
      | (go_at_call 23; refine (HN.out _ B21.out).mono ?_; rintro e w22 ⟨rfl, hB⟩; have B22 := Aside0.mk (B21.out.trans (hB.mono B21.out.size)); clear hB))
    all_goals go_wp2_with fail
    all_goals go_ret
    all_goals exact ⟨rfl, HB.out.trans (B22.out.mono HB.out.size)⟩
end Go.Proofs.Ytlmnfnkjbgnklaa.Jrnl
end
