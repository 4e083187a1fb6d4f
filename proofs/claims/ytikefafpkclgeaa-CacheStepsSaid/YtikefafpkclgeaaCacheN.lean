/- The program's cache: Load, where there is room, or where one may be let go. -/
import Derived.Test.YtikefafpkclgeaaCacheL
import Derived.RegionTactic
set_option linter.unusedVariables false
set_option linter.unusedSimpArgs false
namespace Go.Proofs.Ytikefafpkclgeaa.Cache
open Go.RowKit Go.Shelf Go.Proofs.YtikefafpkclgeaaW.PrintWords Go.Proofs.YtikefafpkclgeaaW.PrintLast Go.Proofs.YtikefafpkclgeaaW.PrintMore Go.Proofs.Ytikefafpkclgeaa.Maps Go.Proofs.Ytikefafpkclgeaa.CacheS
section
variable {B : Nat} {w w1 w' : World} {cb mb : Nat} {fr ck : Int} {T : Nat} {E E1 E' : List Ent}
theorem Fr.imp {w w' : World} {f g : Nat → Prop} (h : Fr w w' f) (hi : ∀ k, f k → g k) : Fr w w' g := ⟨h.os, h.tape, h.output, h.size, fun k hk hn => h.block k hk (fun q => hn (hi k q))⟩
theorem CIs.insert (h : CIs B w cb mb fr ck T E) {k : Int} {d : ByteArray} (hk : ∀ e ∈ E, e.b ≠ k) (hr : 0 ≤ k ∧ k < 1024) (hcap : (E.length : Int) < fr) (hB : B ≤ w.heap.size) {w2 : World}
    (p1 : w2.heap[cb]? = some (.cells #[.int .i64 fr, .int .i64 (ck + 1), .map (some mb)] 57 (0, 0))) (p2 : w2.heap[w.heap.size]? = some (.cells #[.int .i64 0, .int .i64 (ck + 1), .string d, .bool false] 65 (0, 0)))
    (hF : Fr (w.alloc (.cells #[.int .i64 0, .int .i64 0, .string d, .bool false] 65)) w2 (fun k => k = cb ∨ k = w.heap.size)) :
    ∃ w3, (Instr.mapUpdate 55 (.map (some mb)) (.int .i64 k) (.pointer (some ⟨w.heap.size, 0, none⟩))).run Try.prog w2 = .ok () w3 ∧ CPost B cb mb fr (T + 1) E w (E.map Ent.f ++ [⟨k, 0, d, false⟩]) w3 := by
  obtain ⟨g, g1, g2, g3⟩ := h.hel.map
  have hml := h.hel.mlt
  have hcl := blk_lt h.blk
  have hb := below_alloc (Below.refl w.heap.size w) (.cells #[.int .i64 0, .int .i64 0, .string d, .bool false] 65)
  have hF1 : Fr w w2 (fun k => k = cb) := (Fr.of_below hb _).trans hF (fun i hi => by
    rcases hi with q | q
    · exact .inl q
    · exact .inr (by omega))
  have m2 : MapF w2 (Value.int .i64) mb g := g1.of_block (hF1.block mb hml (fun q => h.cm q.symm))
  obtain ⟨w3, hrun, hm3, hg3, hs3⟩ := m2.update (KeyLaw.int Try.underlying3) Try.underlying55 k (ptr w.heap.size)
  refine ⟨w3, hrun, h.add hk hr hcap (Nat.le_refl _) hB g2 g3 ?_ ?_ hm3 ((hF1.imp fun i hi => .inl hi).trans (Fr.of_grown hg3) (fun i hi => .inl (.inr hi)))⟩
  · exact (hg3.block cb (blk_lt p1) (fun e => h.cm (Option.some.inj e))).trans p1
  · exact (hg3.block w.heap.size (blk_lt p2) (fun e => by have := Option.some.inj e; omega)).trans p2
set_option maxHeartbeats 6400000 in
set_option maxRecDepth 100000 in
theorem load_room (h : CIs B w cb mb fr ck T E) (k : Int) (d : ByteArray) (hr : rightS k d = true) (hk : ∀ e ∈ E, e.b ≠ k) (hcap : (E.length : Int) < fr) (hB : B ≤ w.heap.size) (hT : T < 1000000) : Calls Try.prog 10 #[ptr cb, .int .i64 k, .string d] w (LPost B cb mb fr T E w (E.map Ent.f ++ [⟨k, 0, d, false⟩], -1, 0)) := by
  have hpp := Try.underlying23
  have hu := Try.underlying57
  have hpf := Try.underlying59
  have hf := Try.underlying65
  have hb := below_alloc (Below.refl w.heap.size w) (.cells #[ptr cb] 23)
  have hR := Aside0.mk (right_calls k d)
  have hA := Aside0.mk (at_calls (h.below hb) k)
  have hno : look E k = .pointer none := by unfold look; rw [fnd_miss hk]
  rw [hr] at hR
  rw [hno] at hA
  have PB := blk_new w (.cells #[ptr cb] 23)
  have c0 := (blk_cell PB 0).trans (Eq.refl (some (ptr cb)))
  have hbd : Below w.heap.size w (w.alloc (.cells #[ptr cb] 23)).drew := below_drew1 hb
  have hD := h.below hbd
  have d0 := (blk_cell (blk_drew PB) 0).trans (Eq.refl (some (ptr cb)))
  have d1 := hD.c0
  have d2 := hD.c2
  obtain ⟨l, hl, _, _, hlen⟩ := keys_perm hD.hel
  have hln := MapIs.len hl Try.underlying55 3
  rw [hlen] at hln
  have b1 : ((E.length : Int) == fr) = false := by simp; omega
  have HD := Aside0.mk hD
  have HBD := Aside0.mk hbd
  have PBD := Aside0.mk (blk_drew PB)
  have HI := Aside0.mk (And.intro hk (And.intro (right_rng hr) (And.intro hcap (And.intro hB hT))))
  have Hcb := Aside0.mk (blk_lt h.blk)
  have Hmb := Aside0.mk h.hel.mlt
  clear h hr hno hk hcap hB hT hb PB hbd hD hl hlen
  unfold ptr at *
  go_enter Try.func10, Try.ntmps10
  go_wp2_with fail
  refine (hR.out _).mono ?_
  rintro x w1 ⟨rfl, rfl⟩
  go_wp2_with fail
  refine hA.out.mono ?_
  rintro x w1 ⟨rfl, rfl⟩
  go_wp2_with fail
  go_region
  all_goals
    generalize (w.alloc (.cells #[.pointer (some ⟨cb, 0, none⟩)] 23)).drew = WB at *
    have P1 := blk_alloc HD.out.blk (.cells #[.int .i64 0, .int .i64 0, .string d, .bool false] 65)
    have P2 := blk_new WB (.cells #[.int .i64 0, .int .i64 0, .string d, .bool false] 65)
    have P3 := blk_alloc PBD.out (.cells #[.int .i64 0, .int .i64 0, .string d, .bool false] 65)
    have HU := Aside0.mk (use_at P1 P2 (fun q => by have h1 := blk_lt HD.out.blk; omega) HD.out.ckT.1 (by have := HD.out.ckT.2; have := HI.out.2.2.2.2; omega))
    have e0 := (blk_cell P3 0).trans (Eq.refl (some (Value.pointer (some ⟨cb, 0, none⟩))))
    have HP3 := Aside0.mk P3
    have HP1 := Aside0.mk P1
    clear P1 P2 P3 c0 d0 d1 d2 hln
    go_upto_region 16 with fail
    unfold ptr at HU
    go_wp2_with fail
    refine HU.out.mono ?_
    rintro x w2 ⟨rfl, p1, p2, hF⟩
    obtain ⟨w3, hrun, hpost⟩ := HD.out.insert HI.out.1 HI.out.2.1 HI.out.2.2.1 (Nat.le_trans HI.out.2.2.2.1 HBD.out.size) p1 p2 hF
    have q0 := (blk_cell ((hF.block w.heap.size (blk_lt HP3.out) (fun q => by have h1 := Hcb.out; have h2 := blk_lt PBD.out; omega)).trans HP3.out) 0).trans (Eq.refl (some (Value.pointer (some ⟨cb, 0, none⟩))))
    have q2 := (blk_cell p1 2).trans (Eq.refl (some (Value.map (some mb))))
    have HPo := Aside0.mk (CPost.late HBD.out hpost)
    clear p1 p2 hF hpost HU
    go_wp2_with fail
    go_ret2
    exact ⟨rfl, HPo.out⟩
set_option maxHeartbeats 12800000 in
set_option maxRecDepth 100000 in
theorem load_full (h : CIs B w cb mb fr ck T E) (k : Int) (d : ByteArray) (hr : rightS k d = true) (hk : ∀ e ∈ E, e.b ≠ k) (hcap : (E.length : Int) = fr) (hf1 : 1 ≤ fr) (hB : B ≤ w.heap.size) (hT : T < 1000000) : Calls Try.prog 10 #[ptr cb, .int .i64 k, .string d] w (LPost B cb mb fr T E w (evictS (E.map Ent.f) k d)) := by
  have hpp := Try.underlying23
  have hu := Try.underlying57
  have hpf := Try.underlying59
  have hf := Try.underlying65
  have hb := below_alloc (Below.refl w.heap.size w) (.cells #[ptr cb] 23)
  have hR := Aside0.mk (right_calls k d)
  have hA := Aside0.mk (at_calls (h.below hb) k)
  have hno : look E k = .pointer none := by unfold look; rw [fnd_miss hk]
  rw [hr] at hR
  rw [hno] at hA
  have PB := blk_new w (.cells #[ptr cb] 23)
  have c0 := (blk_cell PB 0).trans (Eq.refl (some (ptr cb)))
  have hbd : Below w.heap.size w (w.alloc (.cells #[ptr cb] 23)).drew := below_drew1 hb
  have hD := h.below hbd
  have d0 := (blk_cell (blk_drew PB) 0).trans (Eq.refl (some (ptr cb)))
  have d1 := hD.c0
  have d2 := hD.c2
  obtain ⟨l, hl, _, _, hlen⟩ := keys_perm hD.hel
  have hln := MapIs.len hl Try.underlying55 3
  rw [hlen] at hln
  have b1 : ((E.length : Int) == fr) = true := by simp; omega
  have HD := Aside0.mk hD
  have HBD := Aside0.mk hbd
  have PBD := Aside0.mk (blk_drew PB)
  have HNE : Aside0 (E ≠ []) := ⟨fun q => by rw [q] at hcap; simp at hcap; omega⟩
  have HI := Aside0.mk (And.intro hk (And.intro (right_rng hr) (And.intro hcap (And.intro hB hT))))
  have Hcb := Aside0.mk (blk_lt h.blk)
  have Hmb := Aside0.mk h.hel.mlt
  have HH := Aside0.mk h
  have HX := Aside0.mk (find_free E)
  generalize hres : evictS (E.map Ent.f) k d = res
  have HRes := Aside0.mk hres
  clear h hr hno hk hcap hB hT hb PB hbd hD hl hlen hres hf1
  unfold ptr at *
  go_enter Try.func10, Try.ntmps10
  go_wp2_with fail
  refine (hR.out _).mono ?_
  rintro x w1 ⟨rfl, rfl⟩
  go_wp2_with fail
  refine hA.out.mono ?_
  rintro x w1 ⟨rfl, rfl⟩
  go_wp2_with fail
  go_region
  all_goals
    generalize (w.alloc (.cells #[.pointer (some ⟨cb, 0, none⟩)] 23)).drew = WB at *
    have HHeld := Aside0.mk (held_calls HD.out)
    unfold ptr at HHeld
    go_wp2_with fail
    refine HHeld.out.mono ?_
    rintro x w1 ⟨v, rfl, hrow, hb1⟩
    obtain ⟨A, c, rfl⟩ := own_slice hrow
    have R1 := Aside0.mk hrow
    have B1 := Aside0.mk hb1
    have PB1 := Aside0.mk (blk_below PBD.out hb1)
    have HIx := Aside0.mk (index_calls (HD.out.below hb1) w.heap.size ((blk_cell PB1.out 0).trans rfl) HNE.out hrow)
    clear hrow hb1 HHeld c0 d0 d1 d2 hln
    go_wp2_with fail
    refine HIx.out.mono ?_
    rintro x w2 ⟨rfl, q, rfl⟩
    have B2 : Aside0 (Below WB.heap.size WB (w1.drewN q)) := ⟨below_drewN B1.out q⟩
    have BW2 : Aside0 (Below w.heap.size w (w1.drewN q)) := ⟨HBD.out.trans (B2.out.mono HBD.out.size)⟩
    have R2 : Aside0 ((w1.drewN q).ownsRow WB.heap.size 3 1 (.slice A E.length c) E.length ((E.map Ent.b).map (Value.int .i64))) := ⟨own_below R1.out (below_drewN (Below.refl _ _) q)⟩
    have PB2 := Aside0.mk (blk_below PBD.out B2.out)
    have D2 := Aside0.mk (HD.out.below B2.out)
    clear HIx PB1 B1 R1
    generalize w1.drewN q = W2 at *
    rcases HX.out with ⟨hi, hn⟩ | ⟨i, v, hi, hv, hn⟩
    · rw [hi]
      have hL : Aside0 (res = (E.map Ent.f, 0, 5)) := ⟨by rw [← HRes.out]; unfold evictS; rw [hn]⟩
      have HPo := Aside0.mk (HH.out.stay BW2.out)
      clear hi hn
      go_wp2_with fail
      go_ret2
      rw [hL.out]
      exact ⟨rfl, HPo.out⟩
    · rw [hi]
      have hL : Aside0 (res = (rest F.b (E.map Ent.f) v.b ++ [⟨k, 0, d, false⟩], v.b, 0)) := ⟨by rw [← HRes.out]; unfold evictS; rw [hn]; rfl⟩
      have hil : i < E.length := (List.getElem?_eq_some_iff.1 hv).1
      have hil2 : (i : Int) < (E.length : Int) := by omega
      have b2 : decide ((i : Int) < 0) = false := decide_eq_false (by omega)
      have hvm := Aside0.mk (List.mem_of_getElem? hv)
      have hx : ((E.map Ent.b).map (Value.int .i64))[i]? = some (.int .i64 v.b) := by rw [List.getElem?_map, List.getElem?_map, hv]; rfl
      obtain ⟨gr, cap', e1, x1⟩ := own_cell R2.out hx
      simp only [Value.slice.injEq] at e1
      obtain ⟨rfl, -, rfl⟩ := e1
      obtain ⟨g, g1, g2, g3⟩ := D2.out.hel.map
      obtain ⟨w4, hdl, hm4, hg4, hs4⟩ := g1.delete (KeyLaw.int Try.underlying3) Try.underlying55 v.b 3 0
      obtain ⟨k1, k2, k3, k4⟩ := D2.out.drop hvm.out g2 g3 hm4 (Fr.of_grown hg4)
      have DR := Aside0.mk k1
      have FR : Aside0 (Fr w w4 (fp cb mb E)) := ⟨(Fr.of_below BW2.out _).trans (Fr.of_grown hg4) (fun j hj => .inl (.inr (.inl hj)))⟩
      have FS := Aside0.mk k4
      have PB4 := Aside0.mk ((hg4.block w.heap.size (blk_lt PB2.out) (fun e => by have h1 := Option.some.inj e; have h2 := Hmb.out; omega)).trans PB2.out)
      have HS4 : Aside0 (W2.heap.size ≤ w4.heap.size) := ⟨Nat.le_of_eq hs4.symm⟩
      have e0 := (blk_cell PB2.out 0).trans (Eq.refl (some (Value.pointer (some ⟨cb, 0, none⟩))))
      have e2 := D2.out.c2
      clear hi hn hx hv k1 k2 k3 k4 g1 g2 g3 hm4 hg4 hs4
      go_upto_region 15 with fail
      clear hdl e0 e2 x1
      have P1 := blk_alloc DR.out.blk (.cells #[.int .i64 0, .int .i64 0, .string d, .bool false] 65)
      have P2 := blk_new w4 (.cells #[.int .i64 0, .int .i64 0, .string d, .bool false] 65)
      have P3 := blk_alloc PB4.out (.cells #[.int .i64 0, .int .i64 0, .string d, .bool false] 65)
      have HU := Aside0.mk (use_at P1 P2 (fun q => by have h1 := blk_lt DR.out.blk; omega) DR.out.ckT.1 (by have := DR.out.ckT.2; have := HI.out.2.2.2.2; omega))
      have e0 := (blk_cell P3 0).trans (Eq.refl (some (Value.pointer (some ⟨cb, 0, none⟩))))
      have HP3 := Aside0.mk P3
      clear P1 P2 P3
      go_upto_region 16 with fail
      unfold ptr at HU
      go_wp2_with fail
      refine HU.out.mono ?_
      rintro x w5 ⟨rfl, p1, p2, hF⟩
      obtain ⟨w6, hrun, hpost⟩ := DR.out.insert (k := k) (d := d) (fun e he => HI.out.1 e (rest_mem.1 he).1) HI.out.2.1 (by have h1 := rest_len HH.out.hel.nb hvm.out; have h2 := HI.out.2.2.1; omega) (Nat.le_trans HI.out.2.2.2.1 (Nat.le_trans BW2.out.size HS4.out)) p1 p2 hF
      have q0 := (blk_cell ((hF.block w.heap.size (blk_lt HP3.out) (fun q => by have h1 := Hcb.out; have h2 := blk_lt PB4.out; omega)).trans HP3.out) 0).trans (Eq.refl (some (Value.pointer (some ⟨cb, 0, none⟩))))
      have q2 := (blk_cell p1 2).trans (Eq.refl (some (Value.map (some mb))))
      have HPo := Aside0.mk (CPost.from FR.out FS.out hpost)
      clear p1 p2 hF hpost HU
      go_wp2_with fail
      go_ret2
      rw [hL.out]
      refine ⟨rfl, ?_⟩
      have := HPo.out
      rw [rest_f] at this
      exact this
theorem load_calls (h : CIs B w cb mb fr ck T E) (k : Int) (d : ByteArray) (hf1 : 1 ≤ fr) (hB : B ≤ w.heap.size) (hT : T < 1000000) : Calls Try.prog 10 #[ptr cb, .int .i64 k, .string d] w (LPost B cb mb fr T E w (loadS fr (E.map Ent.f) k d)) := by
  unfold loadS
  cases hr : rightS k d with
  | false => exact load_wrong h k d hr
  | true =>
    rw [if_neg (by simp), fnd_f]
    cases hn : fnd Ent.b E k with
    | some e =>
      obtain ⟨he, hk⟩ := fnd_mem hn
      exact load_held h k d hr he hk
    | none =>
      rw [if_neg (by simp), List.length_map]
      by_cases hc : (E.length : Int) < fr
      · rw [if_pos hc]
        exact load_room h k d hr (fnd_none hn) hc hB hT
      · rw [if_neg hc]
        exact load_full h k d hr (fnd_none hn) (by have := h.cap; omega) hf1 hB hT
end
end Go.Proofs.Ytikefafpkclgeaa.Cache
