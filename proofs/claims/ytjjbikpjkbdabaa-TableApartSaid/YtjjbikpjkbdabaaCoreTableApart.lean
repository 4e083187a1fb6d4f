/- Of every list of steps and every client: TableApart answers true, and what was in memory stays. -/
import Derived.Test.YtjjbikpjkbdabaaTabL
set_option linter.unusedVariables false
set_option linter.unusedSimpArgs false
namespace Go.Proofs.Ytjjbikpjkbdabaa.Core
open Go.RowKit Go.Proofs.YtjjbikpjkbdabaaW.PrintWords Go.Proofs.YtjjbikpjkbdabaaW.PrintLast Go.Proofs.YtjjbikpjkbdabaaW.PrintMore Go.Proofs.Ytjjbikpjkbdabaa.Maps Go.Proofs.Ytjjbikpjkbdabaa.TabS Go.Proofs.Ytjjbikpjkbdabaa.Tab

set_option maxHeartbeats 2000000 in
set_option maxRecDepth 100000 in
theorem apart_long (W : World) (A : Option Addr) (c n : Nat) (d : Int) (hn : 200 < n) : Calls Try.prog 3 #[.slice A n c, .int .i64 d] W fun e W' => e = .returned (.bool true) ∧ Below W.heap.size W W' := by
  have hut := Try.underlying23
  have b1 : decide (200 < (n : Int)) = true := decide_eq_true (by omega)
  go_enter Try.func3, Try.ntmps3
  go_wp2_with fail
  refine (new_calls W.heap.size W (Nat.le_refl _)).mono ?_
  rintro e w1 ⟨ta, ma, rfl, hT, hb, h1, h2⟩
  have HB := Aside0.mk hb
  clear hT hb
  go_wp2_with fail
  refine (new_calls W.heap.size w1 HB.out.size).mono ?_
  rintro e w2 ⟨tb, mb, rfl, hT, hb, h3, h4⟩
  have HB2 := Aside0.mk (HB.out.trans (hb.mono HB.out.size))
  clear hT hb
  unfold ptr
  go_wp2_with fail
  refine (speaks_calls w2).mono ?_
  rintro e w3 ⟨rfl, hb⟩
  have HB3 := Aside0.mk (HB2.out.trans (hb.mono HB2.out.size))
  clear hb
  go_wp2_with fail
  go_ret
  exact ⟨rfl, HB3.out⟩

def Rk (d : Int) (i : Nat) (s : Step) (k : Nat) : T → T → Prop := if k = 0 then R0 d i else if k = 1 then R1 d i s else R0 d (i + 1)
set_option maxHeartbeats 8000000 in
set_option maxRecDepth 100000 in
theorem apart_short (W : World) (A : Option Addr) (c : Nat) (l : List Step) (hl : l.length ≤ c) (hC : Kd.C stepK W A l.length l) (hg : ∀ s ∈ l, goodStep s) (d : Int) (hn : l.length ≤ 200) :
    Calls Try.prog 3 #[.slice A l.length c, .int .i64 d] W fun e W' => e = .returned (.bool true) ∧ Below W.heap.size W W' := by
  have hut := Try.underlying23
  have hus := Try.underlying31
  have hur := Try.underlying29
  have hue := Try.underlying26
  have HC := Aside0.mk hC
  have HG := Aside0.mk hg
  have b1 : decide (200 < (l.length : Int)) = false := decide_eq_false (by omega)
  clear hC hg
  go_enter Try.func3, Try.ntmps3
  go_wp2_with fail
  refine (new_calls W.heap.size W (Nat.le_refl _)).mono ?_
  rintro e w1 ⟨ta, ma, rfl, hT, hb, h1, h2⟩
  have HB := Aside0.mk hb
  have T1 := Aside0.mk hT
  clear hT hb
  go_wp2_with fail
  refine (new_calls W.heap.size w1 HB.out.size).mono ?_
  rintro e w2 ⟨tb, mb, rfl, hT, hb, h3, h4⟩
  have H2 : Two W w2 ta tb (R0 d 0) := by
    refine ⟨ma, [], [], mb, [], [], T1.out.below hb, hT, fun k hk hk' => ?_, HB.out.trans (hb.mono HB.out.size), rfl, Nat.le_refl _, Nat.le_refl _⟩
    have q1 := T1.out.fp_lt hk
    rcases hk' with rfl | rfl | ⟨c, hc⟩
    · omega
    · omega
    · simp [mget] at hc
  have HT := Aside0.mk H2
  clear hT hb H2 T1 HB h1 h2 h3 h4
  unfold ptr
  go_wp2_with fail
  go_loopw [41] (fun c wr => ∃ i : Nat, i ≤ l.length ∧ c = .int .i64 i ∧ Aside0 (Two W wr ta tb (R0 d i))) (fun c _ => l.length - (intOf c).toNat)
  case atStart => exact ⟨0, by omega, rfl, HT⟩
  case round =>
    obtain ⟨i, hi, rfl, H⟩ := hrel
    clear HT
    by_cases hlt : i < l.length
    · obtain ⟨ad, A', c', rfl, hcell, hnm⟩ := step_at HC.out HG.out i hlt
      have hBW : Below W.heap.size W wr := by obtain ⟨_, _, _, _, _, _, _, _, _, h4, _⟩ := H.out; exact h4
      generalize l[i] = s at hcell hnm
      have hold : ∀ j u, (sobj s A' c')[j]? = some u → wr.cell? (ad.add (i * 9 + j)) = some u := fun j u hu => by
        have hW := hcell j u hu
        rw [← hW]
        exact World.cell?_of_block (hBW.block _ (World.block_lt_of_cell? W _ hW))
      have hx := cell_sub wr ad (i * 9)
      have e0 : wr.cell? (ad.add (i * 9)) = some (.int .i64 s.kind) := hold 0 _ rfl
      have e1 : wr.cell? ⟨(ad.add (i * 9)).block, (ad.add (i * 9)).off + 1, none⟩ = some (.int .i64 s.client) := (hx 1 (by decide)).trans (hold 1 _ rfl)
      have e2 : wr.cell? ⟨(ad.add (i * 9)).block, (ad.add (i * 9)).off + 2, none⟩ = some (.int .i64 s.req) := (hx 2 (by decide)).trans (hold 2 _ rfl)
      have e3 : wr.cell? ⟨(ad.add (i * 9)).block, (ad.add (i * 9)).off + 3, none⟩ = some (.int .i64 s.r.e) := (hx 3 (by decide)).trans (hold 3 _ rfl)
      have e4 : wr.cell? ⟨(ad.add (i * 9)).block, (ad.add (i * 9)).off + 4, none⟩ = some (.string s.r.d) := (hx 4 (by decide)).trans (hold 4 _ rfl)
      have e5 : wr.cell? ⟨(ad.add (i * 9)).block, (ad.add (i * 9)).off + 5, none⟩ = some (.int .i64 s.r.k) := (hx 5 (by decide)).trans (hold 5 _ rfl)
      have e6 : wr.cell? ⟨(ad.add (i * 9)).block, (ad.add (i * 9)).off + 6, none⟩ = some (.int .i64 s.r.l) := (hx 6 (by decide)).trans (hold 6 _ rfl)
      have e7 : wr.cell? ⟨(ad.add (i * 9)).block, (ad.add (i * 9)).off + 7, none⟩ = some (.int .i64 s.r.s) := (hx 7 (by decide)).trans (hold 7 _ rfl)
      have e8 : wr.cell? ⟨(ad.add (i * 9)).block, (ad.add (i * 9)).off + 8, none⟩ = some (.slice A' s.r.n.length c') := (hx 8 (by decide)).trans (hold 8 _ rfl)
      have HN := Aside0.mk (hnm.step (w' := wr) (fun k hk hlt' => hBW.block k hlt'))
      clear hcell hold hnm hBW hx
      have hb1 : decide ((i : Int) < (l.length : Int)) = true := decide_eq_true (by omega)
      go_wp2_with fail
      have hP0 := blk_new wr (.cells (sobj s A' c') 31)
      have hN0 := HN.out.below (below_alloc (Below.refl _ wr) (.cells (sobj s A' c') 31))
      have hT0 := H.out.below (below_alloc (Below.refl _ wr) (.cells (sobj s A' c') 31))
      clear H HN e0 e1 e2 e3 e4 e5 e6 e7 e8
      have hobj : wr.alloc (.cells #[.int .i64 s.kind, .int .i64 s.client, .int .i64 s.req, .int .i64 s.r.e, .string s.r.d, .int .i64 s.r.k, .int .i64 s.r.l, .int .i64 s.r.s, .slice A' s.r.n.length c'] 31) = wr.alloc (.cells (sobj s A' c') 31) := rfl
      rw [hobj]
      clear hobj
      generalize wr.alloc (.cells (sobj s A' c') 31) = w0 at hP0 hN0 hT0 ⊢
      generalize wr.heap.size = b8 at hP0 ⊢
      have HP0 := Aside0.mk hP0
      have HN0 := Aside0.mk hN0
      have HT0 := Aside0.mk hT0
      clear hP0 hN0 hT0
      go_loopw [9] (fun c wi => ∃ k : Nat, k ≤ 2 ∧ c = .int .i64 k ∧ Aside0 (Two W wi ta tb (Rk d i s k)) ∧ Aside0 (wi.heap[b8]? = some (.cells (sobj s A' c') 31 (0, 0))) ∧ Aside0 (Names W.heap.size wi A' s.r.n c')) (fun c _ => 2 - (intOf c).toNat)
      case atStart => exact ⟨0, by omega, rfl, HT0, HP0, HN0⟩
      case round =>
        obtain ⟨k, hk, rfl, HT, P, HN⟩ := hrel
        clear HP0 HN0 HT0
        by_cases hk2 : k < 2
        · have c0 := (blk_cell P.out 0).trans rfl
          have c1 := (blk_cell P.out 1).trans rfl
          have c2 := (blk_cell P.out 2).trans rfl
          have c3 := (blk_cell P.out 3).trans rfl
          have c4 := (blk_cell P.out 4).trans rfl
          have c5 := (blk_cell P.out 5).trans rfl
          have c6 := (blk_cell P.out 6).trans rfl
          have c7 := (blk_cell P.out 7).trans rfl
          have c8 := (blk_cell P.out 8).trans rfl
          simp only [sobj] at c0 c1 c2 c3 c4 c5 c6 c7 c8
          by_cases hk0 : k = 0
          · subst hk0
            obtain ⟨ma, bsA, mA, mb, bsB, mB, h1, h2, h3, h4, h5⟩ := HT.out
            have A1 := Aside0.mk h1
            have A2 := Aside0.mk h2
            have A3 := Aside0.mk h3
            have A4 := Aside0.mk h4
            have A5 := Aside0.mk h5
            clear h1 h2 h3 h4 h5 HT
            by_cases k0 : s.kind = 0
            · have q0 : (s.kind == 0) = true := by simpa using k0
              have K0 := Aside0.mk k0
              clear k0
              go_wp2_with fail
              refine (begin_calls (c := s.client) (r := s.req) A1.out A4.out.size).mono ?_
              rintro e wj ⟨bs1, rfl, hT, hF, hp⟩
              have hs : tabStep mA s = (tBegin mA s.client s.req).1 := by unfold tabStep; rw [if_pos K0.out]
              have HQ : Two W wj ta tb (R1 d i s) := two_op A1.out A2.out A3.out A4.out (m' := tabStep mA s) (by rw [hs]; exact hT) hF hp (R1_of A5.out (by omega))
              have HP := two_keep A1.out hF P.out (by decide) (by decide)
              have HN2 := two_names A1.out hF HN.out
              clear hT hF hp
              go_wp2_with fail
              go_roundw
              case rel => exact ⟨1, by omega, by go_num, ⟨HQ.imp (fun a b q => by show Rk d i s 1 a b; exact q)⟩, ⟨HP⟩, ⟨HN2⟩⟩
              case measure => simp [intOf]
            have q0 : (s.kind == 0) = false := by simpa using k0
            have K0 := Aside0.mk k0
            clear k0
            by_cases k1 : s.kind = 1
            · have q1 : (s.kind == 1) = true := by simpa using k1
              have K1 := Aside0.mk k1
              clear k1
              go_wp2_with fail
              refine (begin_calls (c := s.client) (r := s.req) A1.out A4.out.size).mono ?_
              rintro e wj ⟨bs1, rfl, hT, hF, hp⟩
              have hs : tabStep mA s = (tBegin mA s.client s.req).1 := by unfold tabStep; rw [if_neg K0.out, if_pos K1.out]
              have HQ : Two W wj ta tb (R1 d i s) := two_op A1.out A2.out A3.out A4.out (m' := tabStep mA s) (by rw [hs]; exact hT) hF hp (R1_of A5.out (by omega))
              have HP := two_keep A1.out hF P.out (by decide) (by decide)
              have HN2 := two_names A1.out hF HN.out
              clear hT hF hp
              go_wp2_with fail
              go_roundw
              case rel => exact ⟨1, by omega, by go_num, ⟨HQ.imp (fun a b q => by show Rk d i s 1 a b; exact q)⟩, ⟨HP⟩, ⟨HN2⟩⟩
              case measure => simp [intOf]
            have q1 : (s.kind == 1) = false := by simpa using k1
            have K1 := Aside0.mk k1
            clear k1
            by_cases k2 : s.kind = 2
            · have q2 : (s.kind == 2) = true := by simpa using k2
              have K2 := Aside0.mk k2
              clear k2
              go_wp2_with fail
              refine (done_calls (c := s.client) (r := s.req) (x := s.r) A1.out A4.out.size HN.out).mono ?_
              rintro e wj ⟨rfl, hT, hF⟩
              have hs : tabStep mA s = (tDone mA s.client s.req s.r).1 := by unfold tabStep; rw [if_neg K0.out, if_neg K1.out, if_pos K2.out]
              have HQ : Two W wj ta tb (R1 d i s) := two_op A1.out A2.out A3.out A4.out (m' := tabStep mA s) (by rw [hs]; exact hT) hF (fun k hk => .inl hk) (R1_of A5.out (by omega))
              have HP := two_keep A1.out hF P.out (by decide) (by decide)
              have HN2 := two_names A1.out hF HN.out
              clear hT hF 
              go_wp2_with fail
              go_roundw
              case rel => exact ⟨1, by omega, by go_num, ⟨HQ.imp (fun a b q => by show Rk d i s 1 a b; exact q)⟩, ⟨HP⟩, ⟨HN2⟩⟩
              case measure => simp [intOf]
            have q2 : (s.kind == 2) = false := by simpa using k2
            have K2 := Aside0.mk k2
            clear k2
            go_wp2_with fail
            have hs : tabStep mA s = mA := by unfold tabStep; rw [if_neg K0.out, if_neg K1.out, if_neg K2.out]
            have HQ : Two W wr ta tb (R1 d i s) := ⟨ma, bsA, mA, mb, bsB, mB, A1.out, A2.out, A3.out, A4.out, by have q := R1_of (s := s) A5.out (by omega); rw [hs] at q; exact q⟩
            have HP := P.out
            have HN2 := HN.out
            go_roundw
            case rel => exact ⟨1, by omega, by go_num, ⟨HQ.imp (fun a b q => by show Rk d i s 1 a b; exact q)⟩, ⟨HP⟩, ⟨HN2⟩⟩
            case measure => simp [intOf]
          · obtain rfl : k = 1 := by omega
            by_cases hcd : s.client = d
            · have qcd : (s.client != d) = false := by simpa using hcd
              have Hcd := Aside0.mk hcd
              clear hcd
              obtain ⟨ma, bsA, mA, mb, bsB, mB, h1, h2, h3, h4, h5⟩ := HT.out.swap
              have A1 := Aside0.mk h1
              have A2 := Aside0.mk h2
              have A3 := Aside0.mk h3
              have A4 := Aside0.mk h4
              have A5 := Aside0.mk h5
              clear h1 h2 h3 h4 h5 HT
              by_cases k0 : s.kind = 0
              · have q0 : (s.kind == 0) = true := by simpa using k0
                have K0 := Aside0.mk k0
                clear k0
                go_wp2_with fail
                refine (begin_calls (c := s.client) (r := s.req) A1.out A4.out.size).mono ?_
                rintro e wj ⟨bs1, rfl, hT, hF, hp⟩
                have hs : tabStep mA s = (tBegin mA s.client s.req).1 := by unfold tabStep; rw [if_pos K0.out]
                have HQ : Two W wj tb ta (fun a b => R0 d (i + 1) b a) := two_op A1.out A2.out A3.out A4.out (m' := tabStep mA s) (by rw [hs]; exact hT) hF hp (R0_of A5.out Hcd.out)
                have HP := two_keep A1.out hF P.out (by decide) (by decide)
                have HN2 := two_names A1.out hF HN.out
                clear hT hF hp
                go_wp2_with fail
                go_roundw
                case rel => exact ⟨2, by omega, by go_num, ⟨HQ.swap.imp (fun a b q => by show Rk d i s 2 a b; exact q)⟩, ⟨HP⟩, ⟨HN2⟩⟩
                case measure => simp [intOf]
              have q0 : (s.kind == 0) = false := by simpa using k0
              have K0 := Aside0.mk k0
              clear k0
              by_cases k1 : s.kind = 1
              · have q1 : (s.kind == 1) = true := by simpa using k1
                have K1 := Aside0.mk k1
                clear k1
                go_wp2_with fail
                refine (begin_calls (c := s.client) (r := s.req) A1.out A4.out.size).mono ?_
                rintro e wj ⟨bs1, rfl, hT, hF, hp⟩
                have hs : tabStep mA s = (tBegin mA s.client s.req).1 := by unfold tabStep; rw [if_neg K0.out, if_pos K1.out]
                have HQ : Two W wj tb ta (fun a b => R0 d (i + 1) b a) := two_op A1.out A2.out A3.out A4.out (m' := tabStep mA s) (by rw [hs]; exact hT) hF hp (R0_of A5.out Hcd.out)
                have HP := two_keep A1.out hF P.out (by decide) (by decide)
                have HN2 := two_names A1.out hF HN.out
                clear hT hF hp
                go_wp2_with fail
                go_roundw
                case rel => exact ⟨2, by omega, by go_num, ⟨HQ.swap.imp (fun a b q => by show Rk d i s 2 a b; exact q)⟩, ⟨HP⟩, ⟨HN2⟩⟩
                case measure => simp [intOf]
              have q1 : (s.kind == 1) = false := by simpa using k1
              have K1 := Aside0.mk k1
              clear k1
              by_cases k2 : s.kind = 2
              · have q2 : (s.kind == 2) = true := by simpa using k2
                have K2 := Aside0.mk k2
                clear k2
                go_wp2_with fail
                refine (done_calls (c := s.client) (r := s.req) (x := s.r) A1.out A4.out.size HN.out).mono ?_
                rintro e wj ⟨rfl, hT, hF⟩
                have hs : tabStep mA s = (tDone mA s.client s.req s.r).1 := by unfold tabStep; rw [if_neg K0.out, if_neg K1.out, if_pos K2.out]
                have HQ : Two W wj tb ta (fun a b => R0 d (i + 1) b a) := two_op A1.out A2.out A3.out A4.out (m' := tabStep mA s) (by rw [hs]; exact hT) hF (fun k hk => .inl hk) (R0_of A5.out Hcd.out)
                have HP := two_keep A1.out hF P.out (by decide) (by decide)
                have HN2 := two_names A1.out hF HN.out
                clear hT hF 
                go_wp2_with fail
                go_roundw
                case rel => exact ⟨2, by omega, by go_num, ⟨HQ.swap.imp (fun a b q => by show Rk d i s 2 a b; exact q)⟩, ⟨HP⟩, ⟨HN2⟩⟩
                case measure => simp [intOf]
              have q2 : (s.kind == 2) = false := by simpa using k2
              have K2 := Aside0.mk k2
              clear k2
              go_wp2_with fail
              have hs : tabStep mA s = mA := by unfold tabStep; rw [if_neg K0.out, if_neg K1.out, if_neg K2.out]
              have HQ : Two W wr tb ta (fun a b => R0 d (i + 1) b a) := ⟨ma, bsA, mA, mb, bsB, mB, A1.out, A2.out, A3.out, A4.out, by have q := (R0_of A5.out Hcd.out : R0 d (i + 1) mB (tabStep mA s)); rw [hs] at q; exact q⟩
              have HP := P.out
              have HN2 := HN.out
              go_roundw
              case rel => exact ⟨2, by omega, by go_num, ⟨HQ.swap.imp (fun a b q => by show Rk d i s 2 a b; exact q)⟩, ⟨HP⟩, ⟨HN2⟩⟩
              case measure => simp [intOf]
            · have qcd : (s.client != d) = true := by simpa using hcd
              have Hcd := Aside0.mk hcd
              clear hcd
              have HQ : Two W wr ta tb (R0 d (i + 1)) := HT.out.imp (fun a b q => R0_not q Hcd.out)
              go_wp2_with fail
              go_roundw
              case rel => exact ⟨2, by omega, by go_num, ⟨HQ.imp (fun a b q => by show Rk d i s 2 a b; exact q)⟩, P, HN⟩
              case measure => simp [intOf]
        · obtain rfl : k = 2 := by omega
          have HQ : Aside0 (Two W wr ta tb (R0 d (i + 1))) := ⟨HT.out.imp (fun a b q => q)⟩
          clear HT
          obtain ⟨ma, bsA, mA, mb, bsB, mB, h1, h2, h3, h4, h5⟩ := HQ.out
          have eB : tAsk mB d s.req = tAsk mA d s.req := (ask_same h5.1 s.req).symm
          have CA : ∀ w', Below wr.heap.size wr w' → Calls Try.prog 11 #[ptr ta, .int .i64 d, .int .i64 s.req] w' (AskPost W.heap.size w' (tAsk mA d s.req)) := fun w' hb => ask_calls (h1.below hb) (Nat.le_trans h4.size hb.size)
          have CB : ∀ w', Below wr.heap.size wr w' → Calls Try.prog 11 #[ptr tb, .int .i64 d, .int .i64 s.req] w' (AskPost W.heap.size w' (tAsk mA d s.req)) := fun w' hb => eB ▸ ask_calls (h2.below hb) (Nat.le_trans h4.size hb.size)
          have KA := Aside0.mk CA
          have KB := Aside0.mk CB
          clear CA CB eB h1 h2 h3 h4 h5
          generalize tAsk mA d s.req = a at KA KB
          obtain ⟨x, r, y⟩ := a
          unfold ptr at KA KB
          have c2 := (blk_cell P.out 2).trans rfl
          simp only [sobj] at c2
          go_wp2_with fail
          refine (KA.out wr (Below.refl _ _)).mono ?_
          rintro e w5 ⟨A5, c5, rfl, hn5, hb5⟩
          dsimp only at hn5 ⊢
          unfold vres
          have B5 := Aside0.mk (below_alloc hb5 (robj r A5 c5))
          have N5 := Aside0.mk (hn5.below (below_alloc (Below.refl _ w5) (robj r A5 c5)))
          have P5 := Aside0.mk (blk_new w5 (robj r A5 c5))
          clear hn5 hb5 c2
          have c2 := (blk_cell (blk_below P.out B5.out) 2).trans rfl
          simp only [sobj] at c2
          go_wp2_with fail
          generalize hw : w5.alloc (robj r A5 c5) = v5 at B5 N5 P5 c2 ⊢
          clear hw
          generalize w5.heap.size = b5 at P5 ⊢
          refine (KB.out v5 B5.out).mono ?_
          rintro e w6 ⟨A6, c6, rfl, hn6, hb6⟩
          dsimp only at hn6 ⊢
          unfold vres
          have B6 := Aside0.mk (B5.out.trans ((below_alloc hb6 (robj r A6 c6)).mono B5.out.size))
          have N6 := Aside0.mk (hn6.below (below_alloc (Below.refl _ w6) (robj r A6 c6)))
          have N56 := Aside0.mk ((N5.out.below hb6).below (below_alloc (Below.refl _ w6) (robj r A6 c6)))
          have P6 := blk_below P5.out (below_alloc hb6 (robj r A6 c6))
          have d0 := (blk_cell P6 0).trans rfl
          have d1 := (blk_cell P6 1).trans rfl
          have d2 := (blk_cell P6 2).trans rfl
          have d3 := (blk_cell P6 3).trans rfl
          have d4 := (blk_cell P6 4).trans rfl
          have d5 := (blk_cell P6 5).trans rfl
          have Q6 := blk_new w6 (robj r A6 c6)
          have g0 := (blk_cell Q6 0).trans rfl
          have g1 := (blk_cell Q6 1).trans rfl
          have g2 := (blk_cell Q6 2).trans rfl
          have g3 := (blk_cell Q6 3).trans rfl
          have g4 := (blk_cell Q6 4).trans rfl
          have g5 := (blk_cell Q6 5).trans rfl
          have f1 : (x != x) = false := by simp
          have f2 : (y != y) = false := by simp
          clear hn6 hb6 P6 Q6 c2
          go_wp2_with fail
          refine (result_calls (a := r) (b := r) N56.out N6.out).mono ?_
          rintro e w7 ⟨rfl, hb7⟩
          rw [(sameRes_iff r r).2 rfl]
          have T7 := Aside0.mk (HQ.out.below (B6.out.trans (hb7.mono B6.out.size)))
          clear hb7 d0 d1 d2 d3 d4 d5 g0 g1 g2 g3 g4 g5
          go_wp2_with fail
          go_roundw
          case rel => exact ⟨i + 1, by omega, by go_num, T7⟩
          case measure => simp [intOf]; omega
    · obtain rfl : i = l.length := by omega
      go_wp2_with fail
      have hBW : Below W.heap.size W wr := by obtain ⟨_, _, _, _, _, _, _, _, _, h4, _⟩ := H.out; exact h4
      refine (speaks_calls wr).mono ?_
      rintro e w9 ⟨rfl, hb⟩
      have HB9 := Aside0.mk (hBW.trans (hb.mono hBW.size))
      clear hb hBW
      go_wp2_with fail
      go_ret
      exact ⟨rfl, HB9.out⟩
theorem TableApart (W : World) (A : Option Addr) (n c : Nat) (l : List Step) (h : (Kd.slice 31 stepK).K W l [.slice A n c]) (hg : ∀ s ∈ l, goodStep s) (d : Int) (_ : (Lit.int .i64 d).wf = true) :
    Calls Try.prog 3 #[.slice A n c, .int .i64 d] W fun e W' => e = .returned (.bool true) ∧ Below W.heap.size W W' := by
  obtain ⟨A1, c1, he, hc, hC⟩ := h
  obtain ⟨rfl, rfl, rfl⟩ : A = A1 ∧ n = l.length ∧ c = c1 := by simpa using he
  by_cases hn : l.length ≤ 200
  · exact apart_short W A c l hc hC hg d hn
  · exact apart_long W A c l.length d (by omega)
end Go.Proofs.Ytjjbikpjkbdabaa.Core
