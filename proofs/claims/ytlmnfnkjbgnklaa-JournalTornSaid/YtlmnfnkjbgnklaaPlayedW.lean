/- A region that is played: the walk. -/
import Derived.Test.YtlmnfnkjbgnklaaPlayed
import Derived.Test.YtlmnfnkjbgnklaaJrnlDuo
set_option linter.unusedVariables false
set_option linter.unusedSimpArgs false
namespace Go.Proofs.Ytlmnfnkjbgnklaa.Jrnl
open Go.RowKit Go.Proofs.YtlmnfnkjbgnklaaW.PrintWords Go.Proofs.YtlmnfnkjbgnklaaW.PrintLast Go.Proofs.YtlmnfnkjbgnklaaW.PrintMore Go.Proofs.Ytlmnfnkjbgnklaa.TxnS Go.Proofs.Ytlmnfnkjbgnklaa.Txn Go.Proofs.Ytlmnfnkjbgnklaa.JS Go.Proofs.Ytlmnfnkjbgnklaa.Run Go.Proofs.Ytlmnfnkjbgnklaa.Spec Go.Proofs.Ytlmnfnkjbgnklaa.C Go.Proofs.Ytlmnfnkjbgnklaa.Blk
theorem field_ws (x : Int) (s : ByteArray) (w : World) : (Instr.field 42 (.agg #[.int .i64 x, .string s]) 1).run Try.prog w = .ok (.string s) w := by
  have hu := Try.underlying42
  simp [Instr.field, part, sizeOf, asAgg, go_sem, hu]
def PlPost (W : World) (n : Nat) (e : Ending) (w' : World) : Prop :=
  ∃ g jb v Au cu us reg J hs u0, e = .returned (.tuple #[.slice (some ⟨g, 0, none⟩) n n, ptr jb, .slice Au J.sealed.toNat cu]) ∧ PS W w' g jb v (.slice Au hs.length cu) us reg J hs ∧ PI J hs reg u0 ∧ reg.length = n
theorem stps_at {W w : World} {A : Option Addr} {l : List Stp} (h : Stps W A l) (hb : Below W.heap.size W w) (i : Nat) (hi : i < l.length) : ∃ ad A' c', A = some ad ∧ (∀ j u, (sobj l[i] A' c')[j]? = some u → w.cell? (ad.add (i * 3 + j)) = some u) ∧ Chs w A' l[i].l ∧ ∀ k, rd (.slice A' (l[i]).l.length c') k → k < W.heap.size := by
  obtain ⟨ad, A', c', e, hc, hl⟩ := h i hi
  refine ⟨ad, A', c', e, fun j u hu => ?_, hl.below hb, chs_lt hl⟩
  have := hc j u hu
  exact (World.cell?_of_block (hb.block _ (World.block_lt_of_cell? W _ this))).trans this
def fillR (n i : Nat) (z : ByteArray) : List ByteArray := List.replicate i z ++ List.replicate (n - i) ⟨#[]⟩
theorem fillR_set (n i : Nat) (z : ByteArray) (h : i < n) : (fillR n i z).set i z = fillR n (i + 1) z := by
  unfold fillR
  obtain ⟨m, hm⟩ : ∃ m, n - i = m + 1 := ⟨n - i - 1, by omega⟩
  rw [hm, show n - (i + 1) = m by omega, List.set_append_right _ _ (by simp), List.replicate_succ]
  simp [List.replicate_succ']
theorem fillR_all (n : Nat) (z : ByteArray) : fillR n n z = List.replicate n z := by simp [fillR]
set_option maxHeartbeats 6400000 in
set_option maxRecDepth 100000 in
theorem played_yes (n : Nat) (h1 : 8 ≤ n) (h2 : n ≤ 256) (W : World) (A : Option Addr) (l : List Stp) (cp : Nat) (hl : Stps W A l) (hg : ∀ s ∈ l, goodS s) (h300 : l.length ≤ 300) (Ap : Option Addr) (cpp : Nat) (pk : List Bool) (hpk : Picks W Ap pk) (hpl : pk.length ≤ 140737488351232) :
    Calls Try.prog 28 #[.int .i64 n, .slice A l.length cp, .slice Ap pk.length cpp] W (PlPost W n) := by
  have hus := Try.underlying33
  have hup := Try.underlying23
  have huw := Try.underlying42
  have HL := Aside0.mk hl
  have HG := Aside0.mk hg
  have HPk := Aside0.mk hpk
  have km := print_make_of (P := Try.prog) 59 9 (.string ⟨#[]⟩) 16 Try.underlying59 infoS rfl (by decide) n (by omega)
  have hm : madeCells #[Value.string ⟨#[]⟩] n = (tv (fillR n 0 (blockB 0))).toArray := by
    apply Array.toList_inj.1
    apply List.ext_getElem
    · simp [madeCells, tv, fillR]
    · intro i h1 h2
      simp [madeCells, tv, fillR, Nat.mod_one]
  rw [hm] at km
  have hn0 : (0 : Int) < (n : Int) := by omega
  have hn00 : 0 < n := by omega
  have hn01 : ¬ n = 0 := by omega
  clear hl hg hpk hm
  go_enter Try.func28, Try.ntmps28
  go_wp2_with fail
  refine (new_yes n W (by omega) (by omega)).mono ?_
  rintro e w1 ⟨jb, rfl, hJ1, hB1⟩
  have J1 := Aside0.mk hJ1
  have B1 := Aside0.mk hB1
  clear hJ1 hB1
  unfold ptr
  go_upto_region 6 with fail
  have P1 : Aside0 (Reg (w1.alloc (.cells (tv (fillR n 0 (blockB 0))).toArray 9)) w1.heap.size (fillR n 0 (blockB 0))) := ⟨heap_alloc_new w1 _⟩
  have E1 := Aside0.mk (below_alloc (Below.refl w1.heap.size w1) (.cells (tv (fillR n 0 (blockB 0))).toArray 9))
  generalize w1.alloc (.cells (tv (fillR n 0 (blockB 0))).toArray 9) = w2 at P1 E1 ⊢
  obtain ⟨g, hg⟩ : ∃ g, g = w1.heap.size := ⟨_, rfl⟩
  rw [← hg] at P1 ⊢
  have HGe := Aside0.mk hg
  clear hg km
  have HBk := Aside0.mk (fun w => block_any 0 w)
  go_loopw [43] (fun v43 wr => ∃ i : Nat, i ≤ n ∧ v43 = .int .i64 (i : Int) ∧ Aside0 (Reg wr g (fillR n i (blockB 0))) ∧ Aside0 (Below w1.heap.size w1 wr)) (fun x _ => n - (intOf x).toNat)
  case atStart => exact ⟨0, by omega, rfl, P1, E1⟩
  case round =>
    clear P1 E1
    obtain ⟨i, hi, rfl, HR, HB⟩ := hrel
    by_cases hlt : i < n
    · go_wp2_with fail
      refine (HBk.out _).mono ?_
      rintro e w3 ⟨rfl, hB⟩
      have R3 : Aside0 (Reg w3 g (fillR n i (blockB 0))) := ⟨(hB.block g (blk_lt HR.out)).trans HR.out⟩
      have B3 := Aside0.mk (HB.out.trans (hB.mono HB.out.size))
      clear hB
      have k1 := R3.out.cell (i := i) (b := ⟨#[]⟩) (by unfold fillR; rw [List.getElem?_append_right (by simp), List.length_replicate, Nat.sub_self, List.getElem?_replicate, if_pos (by omega)])
      have k2 := blk_frozen R3.out i
      have R4 : Aside0 (Reg (w3.setCell ⟨g, i, none⟩ (.string (blockB 0))) g (fillR n (i + 1) (blockB 0))) := ⟨by rw [← fillR_set n i _ hlt]; exact R3.out.set i _⟩
      have B4 : Aside0 (Below w1.heap.size w1 (w3.setCell ⟨g, i, none⟩ (.string (blockB 0)))) := ⟨B3.out.setCell (p := ⟨g, i, none⟩) (by rw [HGe.out]; exact Nat.le_refl _) _⟩
      go_wp2_with fail
      go_roundw
      case rel => exact ⟨i + 1, by omega, by simp, R4, B4⟩
      case measure => simp [intOf]; omega
    · obtain rfl : i = n := by omega
      have J2 := Aside0.mk (J1.out.below HB.out)
      have HH := Aside0.mk (header_calls J2.out (newJ_ok (by omega) (by omega)).hw)
      obtain ⟨hd, hhd⟩ : ∃ hd, hd = headJ (newJ i) := ⟨_, rfl⟩
      rw [← hhd] at HH
      have HHd := Aside0.mk hhd
      clear hhd
      unfold ptr at HH
      go_wp2_with fail
      refine HH.out.mono ?_
      rintro e w3 ⟨rfl, hB⟩
      have R3 : Aside0 (Reg w3 g (List.replicate i (blockB 0))) := ⟨by have := (hB.block g (blk_lt HR.out)).trans HR.out; rwa [fillR_all] at this⟩
      have B3 := Aside0.mk (HB.out.trans (hB.mono HB.out.size))
      have P3 : Aside0 (PS W w3 g jb (.slice none 0 0) (.slice none 0 0) [] (List.replicate i (blockB 0)) (newJ i) []) := ⟨⟨R3.out, J2.out.below hB, RowX.nil _ _ _, ⟨rfl, fun i hi => by simp at hi⟩, B1.out.trans (B3.out.mono B1.out.size), by rw [HGe.out]; exact B1.out.size, fun hf => by have := J1.out.lt hf; have := HGe.out; omega, by simp [Value.ownBlock], (fun k hk => by cases hk), fun x hx => by simp at hx⟩⟩
      clear hB HR HB HH J2 B1 J1
      have k1 := R3.out.cell (i := 0) (b := blockB 0) (by rw [List.getElem?_replicate]; simp; omega)
      have k2 := blk_frozen R3.out 0
      have P4 := Aside0.mk (P3.out.setReg 0 hd)
      have I4 : Aside0 (PI (newJ i) [] ((List.replicate i (blockB 0)).set 0 hd) 0) := ⟨by rw [HHd.out]; exact newJ_pi i (by omega) (by omega) _ (blockB_size 0)⟩
      go_upto_region 12 with fail
      generalize w3.setCell ⟨g, 0, none⟩ (.string hd) = w4 at P4 ⊢
      generalize (List.replicate i (blockB 0)).set 0 hd = reg at P4 I4
      clear k1 k2 P3 R3 B3 HHd
      go_wp2_with fail
      have h300i : (l.length : Int) ≤ 300 := by omega
      go_loopw [13, 57] (fun v13 v57 wr => ∃ (j : Nat) (last : Int), j ≤ l.length ∧ v57 = .int .i64 (j : Int) ∧ v13 = .int .i64 last ∧ Aside0 (-1 ≤ last ∧ last < j) ∧ Aside0 (∀ q (h : q < l.length), q < j → (l[q].kind = 2 ∨ l[q].kind = 3) → (q : Int) ≤ last) ∧ Aside0 (Below w4.heap.size w4 wr)) (fun _ x _ => l.length - (intOf x).toNat)
      case atStart => exact ⟨0, -1, by omega, rfl, rfl, ⟨by omega, by omega⟩, ⟨fun q h hq => by omega⟩, ⟨Below.refl _ _⟩⟩
      case round =>
        obtain ⟨j, last, hj, rfl, rfl, HLa, HLs, HB⟩ := hrel
        by_cases hlt : j < l.length
        · obtain ⟨ad, A', c', rfl, hcell, hch, hrd0⟩ := stps_at HL.out (P4.out.b.trans (HB.out.mono P4.out.b.size)) j hlt
          obtain ⟨s, hs⟩ : ∃ s, s = l[j] := ⟨_, rfl⟩
          rw [← hs] at hcell
          have HS := Aside0.mk hs
          obtain ⟨e0, e1, e2⟩ := stp_cells hcell
          have Q0 := Aside0.mk (blk_new wr (.cells #[.int .i64 s.kind, .int .i64 s.k, .slice A' s.l.length c'] 33))
          have B0 := Aside0.mk (HB.out.trans ((below_alloc (Below.refl wr.heap.size wr) (.cells #[.int .i64 s.kind, .int .i64 s.k, .slice A' s.l.length c'] 33)).mono HB.out.size))
          clear hcell hch hrd0 hs
          go_upto_region 15 with fail
          generalize wr.alloc (.cells #[.int .i64 s.kind, .int .i64 s.k, .slice A' s.l.length c'] 33) = w5 at Q0 B0 ⊢
          generalize wr.heap.size = g5 at Q0 ⊢
          clear e0 e1 e2
          have q0 := (blk_cell Q0.out 0).trans (Eq.refl (some (Value.int .i64 s.kind)))
          by_cases k23 : s.kind = 2 ∨ s.kind = 3
          · have HK1 : Aside0 ((s.kind == 2) = true ∨ ((s.kind == 2) = false ∧ (s.kind == 3) = true)) := ⟨by
              rcases k23 with k | k
              · exact .inl (by simp [k])
              · exact .inr ⟨by simp [k], by simp [k]⟩⟩
            clear k23
            rcases HK1.out with k1 | ⟨k1, k2⟩
            all_goals
              go_wp2_with fail
              go_roundw
              case rel => exact ⟨j + 1, j, by omega, by simp, rfl, ⟨by omega, by omega⟩, ⟨fun q h hq _ => by omega⟩, B0⟩
              case measure => simp [intOf]; omega
          · have k1 : (s.kind == 2) = false := by simp; omega
            have k2 : (s.kind == 3) = false := by simp; omega
            have HLs2 : Aside0 (∀ q (h : q < l.length), q < j + 1 → (l[q].kind = 2 ∨ l[q].kind = 3) → (q : Int) ≤ last) := ⟨fun q h hq hk => by
              by_cases e : q = j
              · subst e
                rw [← HS.out] at hk
                exact absurd hk k23
              · exact HLs.out q h (by omega) hk⟩
            have HLa2 : Aside0 (-1 ≤ last ∧ last < ((j + 1 : Nat) : Int)) := ⟨by have := HLa.out; omega⟩
            clear k23
            go_wp2_with fail
            go_roundw
            case rel => exact ⟨j + 1, last, by omega, by simp, rfl, HLa2, HLs2, B0⟩
            case measure => simp [intOf]; omega
        · obtain rfl : j = l.length := by omega
          have P5 := Aside0.mk (P4.out.below HB.out)
          clear P4 HB
          go_wp2_with fail
          obtain ⟨HLa1, HLa2⟩ := HLa.out
          go_loopw [16, 17, 18, 74] (fun v16 v17 v18 v74 wr => ∃ (q : Nat) (J : Jr) (v : Value) (us : List Value) (reg : List ByteArray) (hs : List (List Ch)) (u k : Nat), q ≤ l.length ∧ v74 = .int .i64 (q : Int) ∧ v17 = .int .i64 J.sealed ∧ v18 = .int .i64 (k : Int) ∧ Aside0 (PS W wr g jb v v16 us reg J hs) ∧ Aside0 (PI J hs reg u) ∧ Aside0 ((q : Int) ≤ last + 1 → u = J.sizes.sum) ∧ Aside0 (J.first + hs.length ≤ (q : Int) + 1) ∧ Aside0 (k ≤ q * 50) ∧ Aside0 (J.ring = (i : Int) - 1)) (fun _ _ _ x _ => l.length - (intOf x).toNat)
          case atStart => exact ⟨0, newJ i, _, _, reg, [], 0, 0, by omega, rfl, rfl, rfl, P5, I4, ⟨fun _ => rfl⟩, ⟨by simp [newJ]⟩, ⟨by omega⟩, ⟨rfl⟩⟩
          case round =>
            clear P5 I4
            obtain ⟨q, J, v, us, reg, hs, u, k, hq, rfl, rfl, rfl, HP, HI, HF, HC, HK, HRi⟩ := hrel
            obtain ⟨Au, cu, rfl⟩ := HP.out.o.slice
            by_cases hlt : q < l.length
            · go_upto_block 5 with fail
              go_cut [16, 17, 18] (fun v16 v17 v18 wc => ∃ (J : Jr) (v : Value) (us : List Value) (reg : List ByteArray) (hs : List (List Ch)) (u k : Nat), v17 = .int .i64 J.sealed ∧ v18 = .int .i64 (k : Int) ∧ PS W wc g jb v v16 us reg J hs ∧ PI J hs reg u ∧ ((q : Int) + 1 ≤ last + 1 → u = J.sizes.sum) ∧ J.first + hs.length ≤ (q : Int) + 1 + 1 ∧ k ≤ (q + 1) * 50 ∧ J.ring = (i : Int) - 1)
              case first =>
                obtain ⟨ad, A', c', rfl, hcell, hch, hrd0⟩ := stps_at HL.out HP.out.b q hlt
                have hgs := HG.out _ (List.getElem_mem hlt)
                have hls := HLs.out q hlt hlt
                generalize l[q] = s at hcell hch hgs hrd0 hls
                obtain ⟨e0, e1, e2⟩ := stp_cells hcell
                have Q0 := Aside0.mk (blk_new wr (.cells #[.int .i64 s.kind, .int .i64 s.k, .slice A' s.l.length c'] 33))
                have B0 := Aside0.mk (below_alloc (Below.refl wr.heap.size wr) (.cells #[.int .i64 s.kind, .int .i64 s.k, .slice A' s.l.length c'] 33))
                have HCh := Aside0.mk (And.intro (hch.below B0.out) hrd0)
                have HGs := Aside0.mk hgs
                have HLq := Aside0.mk hls
                clear hcell hch hgs hrd0 hls
                go_upto_region 24 with fail
                generalize hW1 : wr.alloc (.cells #[.int .i64 s.kind, .int .i64 s.k, .slice A' s.l.length c'] 33) = W1 at Q0 B0 HCh ⊢
                clear hW1 e0 e1 e2
                have S1 := Aside0.mk (HP.out.below B0.out)
                generalize hg1 : wr.heap.size = g1 at Q0 B0 ⊢
                have NG : Aside0 (¬ fp jb v g1 ∧ g1 ≠ g ∧ ∀ k, (Value.slice Au us.length cu).ownBlock = some k → k ≠ g1) := ⟨fun hf => by have := HP.out.j.lt hf; omega, by have := HP.out.glt; omega, fun k hk => by have := HP.out.o.lt k hk; omega⟩
                clear B0 hg1 HP
                have q0 := (blk_cell Q0.out 0).trans (Eq.refl (some (Value.int .i64 s.kind)))
                have q1 := (blk_cell Q0.out 1).trans (Eq.refl (some (Value.int .i64 s.k)))
                have q2 := (blk_cell Q0.out 2).trans (Eq.refl (some (Value.slice A' s.l.length c')))
                by_cases k2 : s.kind = 2
                · have k2b : (s.kind == 2) = true := by simp [k2]
                  by_cases hk : s.k < 0 ∨ J.sealed < s.k
                  · have HD := Aside0.mk (done_no S1.out.j s.k hk)
                    unfold ptr at HD
                    clear k2 hk
                    go_wp2_with fail
                    refine HD.out.mono ?_
                    rintro e w6 ⟨rfl, hB⟩
                    have S6 := Aside0.mk (S1.out.below (hB.trans ((below_alloc (Below.refl w6.heap.size w6) (.cells #[.int .i64 0, .string ⟨#[]⟩] 42)).mono hB.size)))
                    clear hB HD
                    go_wp2_with fail
                    go_meet
                    case rel => exact ⟨J, v, us, reg, hs, u, k, rfl, rfl, S6.out, HI.out, fun h => HF.out (by omega), by have := HC.out; omega, by have := HK.out; omega, HRi.out⟩
                  · obtain ⟨kk, hke⟩ : ∃ kk : Nat, s.k = kk := ⟨s.k.toNat, by omega⟩
                    have hks : (kk : Int) ≤ J.sealed := by omega
                    have hful : u = J.sizes.sum := HF.out (by have := HLq.out (.inl k2); omega)
                    have hkl : kk ≤ hs.length := by have := HI.out.ok.sn; rw [HI.out.slen] at this; omega
                    have HD := Aside0.mk (done_yes S1.out.j HI.out.ok kk hks)
                    obtain ⟨hid1, hid2⟩ := HI.out.done hful kk hks
                    have HIs := Aside0.mk hid1
                    have HFul := Aside0.mk hid2
                    have hrl0 : ∃ b, reg[0]? = some b := ⟨_, HI.out.hd⟩
                    obtain ⟨rb, hrb⟩ := hrl0
                    have HRb := Aside0.mk hrb
                    have hslen : us.length = hs.length := S1.out.uo.1
                    have HKl := Aside0.mk hkl
                    have HSl := Aside0.mk hslen
                    have hkc : kk ≤ cu := by
                      rcases S1.out.o with ⟨h1, h2⟩ | ⟨g, off, cap, C, h1, _, _, h3, _⟩
                      · simp only [Value.slice.injEq] at h1; omega
                      · simp only [Value.slice.injEq] at h1
                        omega
                    have hkl2 : kk ≤ us.length := by omega
                    have hsd : J.sealed ≤ 255 := by have := HI.out.ok.sn; have := HI.out.ok.sml.2; omega
                    have hw9 : IntKind.i64.wrap (J.sealed - (kk : Int)) = J.sealed - (kk : Int) := IntWalk.i64_in _ (by omega)
                    have hb9 : decide ((kk : Int) ≤ J.sealed) = true := decide_eq_true hks
                    unfold ptr at HD
                    rw [hke] at Q0 q1
                    generalize headJ (doneJ J kk) = hd at HD HIs
                    clear k2 hk hks hful hid1 hid2 hrb hslen hkl
                    go_wp2_with fail
                    refine HD.out.mono ?_
                    rintro e w6 ⟨v6, rfl, hj, hf, hp⟩
                    have S6 := Aside0.mk (S1.out.jstep hj hf hp)
                    have Q6 := Aside0.mk ((hf.block _ (blk_lt Q0.out) NG.out.1).trans Q0.out)
                    clear hj hf hp HD q0 q1 q2
                    have S7 := Aside0.mk (S6.out.below (below_alloc (Below.refl w6.heap.size w6) (.cells #[.int .i64 0, .string hd] 42)))
                    have Q7 := Aside0.mk (((below_alloc (Below.refl w6.heap.size w6) (.cells #[.int .i64 0, .string hd] 42)).block _ (blk_lt Q6.out)).trans Q6.out)
                    have X7 := Aside0.mk (blk_new w6 (.cells #[.int .i64 0, .string hd] 42))
                    have N7 : Aside0 (w6.heap.size ≠ g) := ⟨by have := S6.out.glt; omega⟩
                    go_upto_region 27 with fail
                    generalize w6.alloc (.cells #[.int .i64 0, .string hd] 42) = w7 at S7 Q7 X7 ⊢
                    generalize w6.heap.size = g7 at X7 N7 ⊢
                    clear S6 Q6
                    have q1 := (blk_cell Q7.out 1).trans (Eq.refl (some (Value.int .i64 (kk : Int))))
                    have x1 := (blk_cell X7.out 1).trans (Eq.refl (some (Value.string hd)))
                    have k1 := S7.out.rg.cell HRb.out
                    have kf := blk_frozen S7.out.rg 0
                    have S8 := Aside0.mk (S7.out.setReg 0 hd)
                    have Q8 : Aside0 ((w7.setCell ⟨g, 0, none⟩ (.string hd)).heap[g1]? = some (.cells #[.int .i64 s.kind, .int .i64 (kk : Int), .slice A' s.l.length c'] 33 (0, 0))) := ⟨(blk_set_ne 0 (.string hd) (fun e => NG.out.2.1 e.symm)).trans Q7.out⟩
                    go_upto_region 29 with fail
                    generalize w7.setCell ⟨g, 0, none⟩ (.string hd) = w8 at S8 Q8 ⊢
                    clear q1 x1 k1 kf S7 Q7 X7
                    have q1 := (blk_cell Q8.out 1).trans (Eq.refl (some (Value.int .i64 (kk : Int))))
                    have S9 := Aside0.mk (S8.out.cut (k := kk) HSl.out (by rw [HSl.out]; exact HKl.out))
                    have HC9 : Aside0 ((doneJ J kk).first + ((hs.drop kk).length : Int) ≤ (q : Int) + 1 + 1) := ⟨by
                      have := HC.out
                      have := HKl.out
                      show J.first + (kk : Int) + ((hs.drop kk).length : Int) ≤ _
                      rw [List.length_drop]
                      omega⟩
                    rcases Nat.lt_or_ge kk cu with hkk | hkk
                    · have hne : ¬ cu = kk := by omega
                      rw [if_neg hne] at S9
                      go_wp2_with fail
                      go_meet
                      case rel => exact ⟨doneJ J kk, _, _, _, hs.drop kk, _, k, rfl, rfl, S9.out, HIs.out, fun _ => HFul.out, HC9.out, by have := HK.out; omega, HRi.out⟩
                    · obtain rfl : cu = kk := by omega
                      rw [if_pos rfl, Nat.sub_self] at S9
                      go_wp2_with fail
                      go_meet
                      case rel => exact ⟨doneJ J cu, _, _, _, hs.drop cu, _, k, rfl, rfl, S9.out, HIs.out, fun _ => HFul.out, HC9.out, by have := HK.out; omega, HRi.out⟩
                · have k2b : (s.kind == 2) = false := by simp; omega
                  by_cases k3 : s.kind = 3
                  · have k3b : (s.kind == 3) = true := by simp [k3]
                    have hful : u = J.sizes.sum := HF.out (by have := HLq.out (.inr k3); omega)
                    have HFul := Aside0.mk hful
                    have HD := Aside0.mk (seal_calls S1.out.j HI.out.ok)
                    have HIs := Aside0.mk (HI.out.seal hful)
                    have hrl0 : ∃ b, reg[0]? = some b := ⟨_, HI.out.hd⟩
                    obtain ⟨rb, hrb⟩ := hrl0
                    have HRb := Aside0.mk hrb
                    have hslen : us.length = hs.length := S1.out.uo.1
                    have HSl := Aside0.mk hslen
                    unfold ptr at HD
                    generalize headJ (sealJ J) = hd at HD HIs
                    clear k2 k3 hful hrb hslen
                    go_wp2_with fail
                    refine HD.out.mono ?_
                    rintro e w6 ⟨v6, rfl, hj, hf, hp⟩
                    have S6 := Aside0.mk (S1.out.jstep hj hf hp)
                    clear hj hf hp HD q0 q1 q2
                    have k1 := S6.out.rg.cell HRb.out
                    have kf := blk_frozen S6.out.rg 0
                    have S7 := Aside0.mk (S6.out.setReg 0 hd)
                    have kfd : ∀ w : World, (Instr.field 42 (.agg #[.int .i64 0, .string hd]) 1).run Try.prog w = .ok (.string hd) w := fun w => field_ws 0 hd w
                    go_upto_region 33 with fail
                    generalize w6.setCell ⟨g, 0, none⟩ (.string hd) = w7 at S7 ⊢
                    clear k1 kf S6
                    go_wp2_with fail
                    go_meet
                    case rel => exact ⟨sealJ J, _, us, _, hs, u, k, by show Value.int .i64 (us.length : Int) = .int .i64 (J.sizes.length : Int); rw [HSl.out, HI.out.slen], rfl, S7.out, HIs.out, fun _ => HFul.out, by have := HC.out; show J.first + (hs.length : Int) ≤ _; omega, by have := HK.out; omega, HRi.out⟩
                  · have k3b : (s.kind == 3) = false := by simp; omega
                    by_cases k0 : s.kind = 0 ∨ s.kind = 1
                    · have HA := Aside0.mk (append_calls S1.out.j HI.out.ok S1.out.b.size s.l A' c' HCh.out.1 (Nat.le_trans HGs.out.2.1 (by decide)))
                      have HK1 : Aside0 ((s.kind == 0) = true ∨ ((s.kind == 0) = false ∧ (s.kind == 1) = true)) := ⟨by
                        rcases k0 with k | k
                        · exact .inl (by simp [k])
                        · exact .inr ⟨by simp [k], by simp [k]⟩⟩
                      unfold ptr at HA
                      by_cases hz : (appJ J s.l).2.1 = 0
                      · obtain ⟨hr, hm, hx⟩ := appJ_zero hz
                        rw [hx] at HA
                        have HPu := Aside0.mk (HI.out.push s.l hr hm (by have := HC.out; omega))
                        have HAt := Aside0.mk (fun t (ht : t < s.l.length + 1) => wsJ_at HI.out s.l hr t ht)
                        obtain ⟨N, hN⟩ : ∃ N, N = (wsJ J s.l).length := ⟨_, rfl⟩
                        have hN2 : N = s.l.length + 1 := by rw [hN, wsJ_len]
                        have hN49 : N ≤ 49 := by have := hr.2; omega
                        have hsu : J.sizes.sum ≤ 255 := HI.out.ok.sml.1
                        have HN := Aside0.mk hN
                        have HN2 := Aside0.mk hN2
                        have hus : us.length ≤ 1000 := by have := S1.out.uo.1; have := HI.out.slen; have := HI.out.ok.sml.2; omega
                        have Hus := Aside0.mk hus
                        have hrg := HI.out.ok.r7
                        have hri := HRi.out
                        have hlr : reg.length = i := by have := HI.out.len; omega
                        clear hz hm hx k0 hN hN2 hus hr
                        rcases HK1.out with k1 | ⟨k1, k2⟩
                        all_goals
                          go_wp2_with fail
                          refine HA.out.mono ?_
                          rintro e w6 ⟨uw, v6, rfl, hu, hj, hf, hp, hd⟩
                          dsimp only at hu hj
                          rw [← HN.out] at hu
                          obtain ⟨Aw, cw, rfl⟩ := own_slice hu
                          have S6 := Aside0.mk (S1.out.jstep hj hf hp)
                          have Q6 := Aside0.mk ((hf.block _ (blk_lt Q0.out) NG.out.1).trans Q0.out)
                          have HC6 : Aside0 (Chs w6 A' s.l) := ⟨chs_step HCh.out.1 fun k hk => hf.block k (by have := HCh.out.2 k hk; have := S1.out.b.size; omega) (fun hfp => by have := HCh.out.2 k hk; have := S1.out.j.ge hfp; omega)⟩
                          have CW6 : Aside0 (Chs w6 Aw (wsJ J s.l)) := ⟨own_chs' hu HN.out⟩
                          have NW : Aside0 (∀ k, rd (.slice Aw (wsJ J s.l).length cw) k → W1.heap.size ≤ k ∧ k < w6.heap.size) := ⟨fun k hk => by
                            rw [← HN.out] at hk
                            exact ⟨own_base hu k (own_rd hu k hk), own_lt hu k (own_rd hu k hk)⟩⟩
                          have NO : Aside0 (∀ k, (Value.slice Au us.length cu).ownBlock = some k → k < W1.heap.size) := ⟨fun k hk => S1.out.o.lt k hk⟩
                          have NGl : Aside0 (g < W1.heap.size) := ⟨S1.out.glt⟩
                          clear hu hj hf hp hd HA q0 q1 q2
                          have q2 := (blk_cell Q6.out 2).trans (Eq.refl (some (Value.slice A' s.l.length c')))
                          go_upto_region 38 with fail
                          have SA := Aside0.mk (S6.out.below (below_alloc (Below.refl w6.heap.size w6) (.cells #[.slice A' s.l.length c'] 31)))
                          have CA := Aside0.mk ((blk_cell (blk_new w6 (.cells #[.slice A' s.l.length c'] 31)) 0).trans (Eq.refl (some (Value.slice A' s.l.length c'))))
                          have HPO : Aside0 (∀ A6 n6 w8, RowX w8 W.heap.size 31 (.slice A6 (us.length + 1) n6) (us ++ [.slice A' s.l.length c']) → (w6.alloc (.cells #[.slice A' s.l.length c'] 31)).grownBy w8 (Value.slice Au us.length cu).ownBlock → ((Value.slice A6 (us.length + 1) n6).ownBlock = (Value.slice Au us.length cu).ownBlock ∨ (Value.slice A6 (us.length + 1) n6).ownBlock = some (w6.alloc (.cells #[.slice A' s.l.length c'] 31)).heap.size) → PS W w8 g jb v6 (.slice A6 (us.length + 1) n6) (us ++ [.slice A' s.l.length c']) reg (pushJ J (s.l.length + 1)) (hs ++ [s.l]) ∧ Chs w8 Aw (wsJ J s.l)) := ⟨fun A6 n6 w8 hr6 hg6 ho6 => by
                            refine ⟨SA.out.push hr6 hg6 ho6 (HC6.out.below (below_alloc (Below.refl w6.heap.size w6) _)) HCh.out.2, ?_⟩
                            refine chs_step (c := cw) (CW6.out.below (below_alloc (Below.refl w6.heap.size w6) (.cells #[.slice A' s.l.length c'] 31))) fun k hk => ?_
                            obtain ⟨h1, h2⟩ := NW.out k hk
                            exact hg6.block k (by simp; omega) (fun e => by have := NO.out k e.symm; omega)⟩
                          go_wp2_with (at_builtin; refine wpList_push rfl W.heap.size (.tmp 131) (.tmp 134) 54 31 (.slice none 0 0) 24 rfl Try.underlying54 infoL1 rfl _ _ (.slice A' s.l.length c') ⟨w6.heap.size, 0, none⟩ 1 rfl rfl CA.out rfl SA.out.o (by have := Hus.out; simp only [maxLen]; omega) (by have := Hus.out; omega) SA.out.b.size ?_; intro A6 n6 w8 hr6 hg6 ho6; have hh6 := HPO.out A6 n6 w8 hr6 hg6 ho6; have S8 := Aside0.mk hh6.1; have C8 := Aside0.mk hh6.2; clear hr6 hg6 ho6 hh6)
                          clear q2 SA CA HPO S6 Q6 HC6 CW6
                          go_loopw [18, 138] (fun v18 v138 wr => ∃ (t k' : Nat) (reg' : List ByteArray) (u' : Nat), t ≤ N ∧ v138 = .int .i64 (t : Int) ∧ v18 = .int .i64 (k' : Int) ∧ Aside0 (PS W wr g jb v6 (.slice A6 (us.length + 1) n6) (us ++ [.slice A' s.l.length c']) reg' (pushJ J (s.l.length + 1)) (hs ++ [s.l])) ∧ Aside0 (PI (pushJ J (s.l.length + 1)) (hs ++ [s.l]) reg' u') ∧ Aside0 ((q : Int) ≤ last → u' = J.sizes.sum + t) ∧ Aside0 (last < q → u' = u) ∧ Aside0 (k' ≤ q * 50 + t) ∧ Aside0 (Chs wr Aw (wsJ J s.l)) ∧ Aside0 (reg'.length = i)) (fun _ x _ => N - (intOf x).toNat)
                          case atStart => exact ⟨0, k, reg, u, by omega, rfl, rfl, S8, HPu, ⟨fun h => HF.out (by omega)⟩, ⟨fun _ => rfl⟩, ⟨by have := HK.out; omega⟩, C8, ⟨hlr⟩⟩
                          case round =>
                            clear S8 C8
                            obtain ⟨t, k', reg', u', ht, rfl, rfl, HS, HIn, HFa, HFb, HKk, HCw, HLr⟩ := hrel
                            by_cases hltt : t < N
                            · obtain ⟨b, hb1, hb2, hb3⟩ := HAt.out t (by have := HN2.out; omega)
                              obtain ⟨adw, rfl, e0, e1⟩ := HCw.out t (by rw [← HN.out]; exact hltt)
                              rw [hb1] at e0 e1
                              obtain ⟨p, hp⟩ : ∃ p, p = (J.tail.toNat + (J.sizes.sum + t)) % J.ring.toNat := ⟨_, rfl⟩
                              rw [← hp] at e0
                              have hpm : p < J.ring.toNat := by rw [hp]; exact Nat.mod_lt _ (by omega)
                              dsimp only at e0 e1
                              have e0' : wr.cell? (adw.add (t * 2)) = some (.int .i64 ((p : Int) + 1)) := e0
                              have X0 := Aside0.mk (blk_new wr (.cells #[.int .i64 ((p : Int) + 1), .string b] 42))
                              have BX := Aside0.mk (below_alloc (Below.refl wr.heap.size wr) (.cells #[.int .i64 ((p : Int) + 1), .string b] 42))
                              have SX := Aside0.mk (HS.out.below BX.out)
                              have CX := Aside0.mk (HCw.out.below BX.out)
                              have NX : Aside0 (wr.heap.size ≠ g) := ⟨by have := HS.out.glt; omega⟩
                              have hju : (pushJ J (s.l.length + 1)).sizes.sum = J.sizes.sum + N := by
                                show (J.sizes ++ [s.l.length + 1]).sum = _
                                rw [List.sum_append]
                                have := HN2.out
                                simp
                                omega
                              have hsr : (J.sizes.sum : Int) + N ≤ J.ring := by
                                have h5 := HIn.out.ok.su
                                rw [hju] at h5
                                have h4 : (pushJ J (s.l.length + 1)).ring = J.ring := rfl
                                omega
                              have hset1 : (q : Int) ≤ last → PI (pushJ J (s.l.length + 1)) (hs ++ [s.l]) (reg'.set (p + 1) b) (u' + 1) := fun h => by
                                have e := HFa.out h
                                subst e
                                have := HIn.out.set (b := b) hb3 (by rw [hju]; omega) hb2
                                rw [show (pushJ J (s.l.length + 1)).tail = J.tail from rfl, show (pushJ J (s.l.length + 1)).ring = J.ring from rfl, ← hp] at this
                                exact this
                              have hset2 : last < (q : Int) → PI (pushJ J (s.l.length + 1)) (hs ++ [s.l]) (reg'.set (p + 1) b) u' := fun h => by
                                have e := HFb.out h
                                have hul := HI.out.ul
                                have := HIn.out.junk (o := J.sizes.sum + t) (b := b) (by omega) (by show J.sizes.sum + t < J.ring.toNat; omega) hb2
                                rw [show (pushJ J (s.l.length + 1)).tail = J.tail from rfl, show (pushJ J (s.l.length + 1)).ring = J.ring from rfl, ← hp] at this
                                exact this
                              have HSet1 := Aside0.mk hset1
                              have HSet2 := Aside0.mk hset2
                              have hpi : p + 1 < i := by omega
                              have hold : ∃ o, reg'[p + 1]? = some o := ⟨_, List.getElem?_eq_getElem (by rw [HLr.out]; exact hpi)⟩
                              obtain ⟨o, ho⟩ := hold
                              have HOl := Aside0.mk ho
                              have HLr2 : Aside0 ((reg'.set (p + 1) b).length = i) := ⟨by rw [List.length_set]; exact HLr.out⟩
                              clear hb1 hb2 hb3 e0 hp hsr hju hset1 hset2 ho
                              go_upto_region 42 with fail
                              generalize wr.alloc (.cells #[.int .i64 ((p : Int) + 1), .string b] 42) = w9 at X0 BX SX CX ⊢
                              generalize wr.heap.size = g9 at X0 NX ⊢
                              clear e0' e1 HCw HS
                              have x0 := (blk_cell X0.out 0).trans (Eq.refl (some (Value.int .i64 ((p : Int) + 1))))
                              have x1 := (blk_cell X0.out 1).trans (Eq.refl (some (Value.string b)))
                              have y0 := SX.out.rg.cell HOl.out
                              have yf := blk_frozen SX.out.rg (p + 1)
                              have S10 := Aside0.mk (SX.out.setReg (p + 1) b)
                              have C10 : Aside0 (Chs (w9.setCell ⟨g, p + 1, none⟩ (.string b)) (some adw) (wsJ J s.l)) := ⟨chs_step (c := cw) CX.out fun k hk => blk_set_ne (p + 1) (.string b) (fun e => by have := (NW.out k hk).1; have := NGl.out; omega)⟩
                              have z1 : decide ((p : Int) + 1 ≥ 1) = true := decide_eq_true (by omega)
                              have z2 : decide ((p : Int) + 1 < (i : Int)) = true := decide_eq_true (by omega)
                              have z3 : ((p : Int) + 1).toNat = p + 1 := by omega
                              have z4 : (0 : Int) ≤ (p : Int) + 1 := by omega
                              have z5 : (p : Int) + 1 < (i : Int) := by omega
                              have z6 : IntKind.i64.wrap ((k' : Int) + 1) = (k' : Int) + 1 := IntWalk.i64_in _ (by have := HKk.out; omega)
                              by_cases hql : (q : Int) ≤ last
                              · have y1 : decide ((q : Int) > last) = false := decide_eq_false (by omega)
                                have I10 := Aside0.mk (HSet1.out hql)
                                have F10 : Aside0 (u' + 1 = J.sizes.sum + (t + 1)) := ⟨by rw [HFa.out hql]; omega⟩
                                clear hql
                                go_wp2_with fail
                                generalize w9.setCell ⟨g, p + 1, none⟩ (.string b) = w10 at S10 C10 ⊢
                                go_roundw
                                case rel => exact ⟨t + 1, k', _, u' + 1, by omega, by simp, rfl, S10, I10, ⟨fun _ => F10.out⟩, ⟨fun h => by have := of_decide_eq_false y1; omega⟩, ⟨by have := HKk.out; omega⟩, C10, HLr2⟩
                                case measure => simp [intOf]; omega
                              · have y1 : decide ((q : Int) > last) = true := decide_eq_true (by omega)
                                have hql' : last < (q : Int) := by omega
                                have HQl := Aside0.mk hql'
                                have I10 := Aside0.mk (HSet2.out hql')
                                clear hql hql'
                                by_cases hkp : k' < pk.length
                                · have y2 : decide (k' < pk.length) = true := decide_eq_true hkp
                                  obtain ⟨adp, rfl, hcp⟩ := HPk.out k' hkp
                                  have cp9 := (World.cell?_of_block (SX.out.b.block _ (World.block_lt_of_cell? W _ hcp))).trans hcp
                                  generalize pk[k'] = pb at cp9
                                  clear hcp
                                  cases pb with
                                  | true =>
                                    go_wp2_with fail
                                    go_roundw
                                    case rel => exact ⟨t + 1, k' + 1, reg', u', by omega, by simp, by simp, SX, HIn, ⟨fun h => by have := HQl.out; omega⟩, HFb, ⟨by have := HKk.out; omega⟩, CX, HLr⟩
                                    case measure => simp [intOf]; omega
                                  | false =>
                                    go_wp2_with fail
                                    generalize w9.setCell ⟨g, p + 1, none⟩ (.string b) = w10 at S10 C10 ⊢
                                    go_roundw
                                    case rel => exact ⟨t + 1, k' + 1, _, u', by omega, by simp, by simp, S10, I10, ⟨fun h => by have := HQl.out; omega⟩, HFb, ⟨by have := HKk.out; omega⟩, C10, HLr2⟩
                                    case measure => simp [intOf]; omega
                                · have y2 : decide (k' < pk.length) = false := decide_eq_false hkp
                                  go_wp2_with fail
                                  generalize w9.setCell ⟨g, p + 1, none⟩ (.string b) = w10 at S10 C10 ⊢
                                  go_roundw
                                  case rel => exact ⟨t + 1, k' + 1, _, u', by omega, by simp, by simp, S10, I10, ⟨fun h => by have := HQl.out; omega⟩, HFb, ⟨by have := HKk.out; omega⟩, C10, HLr2⟩
                                  case measure => simp [intOf]; omega
                            · obtain rfl : t = N := by omega
                              go_wp2_with fail
                              go_meet
                              case rel => exact ⟨pushJ J (s.l.length + 1), _, _, reg', hs ++ [s.l], u', k', rfl, rfl, HS.out, HIn.out, fun h => by rw [HFa.out (by omega)]; show _ = (J.sizes ++ [s.l.length + 1]).sum; rw [List.sum_append]; have := HN2.out; simp; omega, by have := HC.out; show J.first + ((hs ++ [s.l]).length : Int) ≤ _; rw [List.length_append, List.length_singleton]; omega, by have := HKk.out; omega, HRi.out⟩
                      · have hzb : ((appJ J s.l).2.1 != 0) = true := by simp [hz]
                        have HZ := Aside0.mk (appJ_err J s.l hz)
                        generalize appJ J s.l = x at *
                        clear hz k0
                        rcases HK1.out with k1 | ⟨k1, k2⟩
                        all_goals
                          go_wp2_with fail
                          refine HA.out.mono ?_
                          rintro e w6 ⟨uw, v6, rfl, hu, hj, hf, hp, hd⟩
                          obtain ⟨Aw, cw, rfl⟩ := own_slice hu
                          rw [HZ.out] at hj
                          have S6 := Aside0.mk (S1.out.jstep hj hf hp)
                          clear hu hj hf hp hd HA
                          go_wp2_with fail
                          go_meet
                          case rel => exact ⟨J, _, us, reg, hs, u, k, rfl, rfl, S6.out, HI.out, fun h => HF.out (by omega), by have := HC.out; omega, by have := HK.out; omega, HRi.out⟩
                    · have k0b : (s.kind == 0) = false := by simp; omega
                      have k1b : (s.kind == 1) = false := by simp; omega
                      clear k0 k2 k3
                      go_wp2_with fail
                      go_meet
                      case rel => exact ⟨J, v, us, reg, hs, u, k, rfl, rfl, S1.out, HI.out, fun h => HF.out (by omega), by have := HC.out; omega, by have := HK.out; omega, HRi.out⟩
              case rest =>
                obtain ⟨J2, v2, us2, reg2, hs2, u2, k2, rfl, rfl, hP, hI, hF, hC, hK, hR⟩ := hcut
                have P2 := Aside0.mk hP
                have I2 := Aside0.mk hI
                have F2 := Aside0.mk hF
                have C2 := Aside0.mk hC
                have K2 := Aside0.mk hK
                have R2 := Aside0.mk hR
                clear hP hI hF hC hK hR HP HI HF HC HK HRi
                go_wp2_with fail
                go_roundw
                case rel => exact ⟨q + 1, J2, v2, us2, reg2, hs2, u2, k2, by omega, by simp, rfl, rfl, P2, I2, ⟨fun h => F2.out (by omega)⟩, ⟨by have := C2.out; omega⟩, K2, R2⟩
                case measure => simp [intOf]; omega
            · obtain rfl : q = l.length := by omega
              have hus : us.length = hs.length := HP.out.uo.1
              have hsl := HI.out.slen
              have hsn := HI.out.ok.sn
              have hs0 := HI.out.ok.s0
              obtain ⟨K, hKe⟩ : ∃ K : Nat, J.sealed = K := ⟨J.sealed.toNat, by omega⟩
              have hKl : K ≤ us.length := by omega
              have hcu : us.length ≤ cu := by
                rcases HP.out.o with ⟨h1, h2⟩ | ⟨g, off, cap, C, h1, _, _, h3, _⟩
                · simp only [Value.slice.injEq] at h1; omega
                · simp only [Value.slice.injEq] at h1
                  omega
              have hKc : K ≤ cu := by omega
              have HUs := Aside0.mk hus
              have HKe := Aside0.mk hKe
              have HLr : Aside0 (reg.length = i) := ⟨by have := HI.out.len; have := HRi.out; omega⟩
              rw [hKe]
              clear hus hsl hsn hs0 hKe hcu
              go_wp2_with fail
              go_region
              all_goals
                go_wp2_with fail
                refine bodyPost_ret (v := .tuple #[.slice (some ⟨g, 0, none⟩) i i, .pointer (some ⟨jb, 0, none⟩), .slice Au K cu]) (by simp [results, Try.results28, go_sem]) rfl ⟨g, jb, v, Au, cu, us, reg, J, hs, u, ?_, ?_, HI.out, HLr.out⟩
                · rw [HKe.out]; rfl
                · rw [← HUs.out]; exact HP.out.below (below_drew1 (Below.refl _ _))
end Go.Proofs.Ytlmnfnkjbgnklaa.Jrnl
