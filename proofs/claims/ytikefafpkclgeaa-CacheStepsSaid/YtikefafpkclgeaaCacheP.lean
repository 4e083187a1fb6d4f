/- The program's cache: Look, Store, Pin, Unpin. -/
import Derived.Test.YtikefafpkclgeaaCache
set_option linter.unusedVariables false
set_option linter.unusedSimpArgs false
namespace Go.Proofs.Ytikefafpkclgeaa.Cache
open Go.RowKit Go.Proofs.YtikefafpkclgeaaW.PrintWords Go.Proofs.YtikefafpkclgeaaW.PrintLast Go.Proofs.YtikefafpkclgeaaW.PrintMore Go.Proofs.Ytikefafpkclgeaa.Maps Go.Proofs.Ytikefafpkclgeaa.CacheS
section
variable {B : Nat} {w w' : World} {cb mb : Nat} {fr ck : Int} {T : Nat} {E E' P Q : List Ent} {e e' : Ent}
theorem CIs.used (h : CIs B w cb mb fr ck T E) (he : e ∈ E) (hb : e'.b = e.b) (ha : e'.a = e.a) (hu : e'.u = ck + 1) (hp : 0 ≤ e'.p ∧ e'.p ≤ (T + 1 : Nat)) (P1 : w'.heap[cb]? = some (.cells #[.int .i64 fr, .int .i64 (ck + 1), .map (some mb)] 57 (0, 0))) (P2 : w'.heap[e.a]? = some (.cells (cells e') 65 (0, 0))) (hF : Fr w w' (fun k => k = cb ∨ k = e.a)) :
    CPost B cb mb fr (T + 1) E w ((rest Ent.b E e.b ++ [e']).map Ent.f) w' := by
  obtain ⟨P, Q, rfl⟩ := List.append_of_mem he
  have hr : rest Ent.b (P ++ e :: Q) e.b = P ++ Q := rest_split h.hel.nb
  have hnm : ∀ x ∈ P ++ e :: Q, x.a ≠ e.a → w'.heap[x.a]? = w.heap[x.a]? := fun x hx hne => hF.block x.a (h.hel.lt hx) (fun q => by
    rcases q with q | q
    · exact h.cne hx q
    · exact hne q)
  have hmb : w'.heap[mb]? = w.heap[mb]? := hF.block mb h.hel.mlt (fun q => by
    rcases q with q | q
    · exact h.cm q.symm
    · exact h.hel.ne he q.symm)
  have h1 := h.hel.put hb ha hmb P2 hnm
  have hperm : (P ++ Q ++ [e']).Perm (P ++ e' :: Q) := by
    rw [List.append_assoc]
    exact List.Perm.append_left P (List.perm_append_singleton e' Q)
  have hsub : ∀ x ∈ P ++ Q, x ∈ P ++ e :: Q := fun x hx => by
    rcases List.mem_append.1 hx with hx | hx
    · exact List.mem_append_left _ hx
    · exact List.mem_append_right _ (List.mem_cons_of_mem _ hx)
  have hsl : (P ++ Q).Sublist (P ++ e :: Q) := List.Sublist.append_left (List.sublist_cons_self e Q) P
  have hlen : (P ++ Q ++ [e']).length = (P ++ e :: Q).length := by simp
  rw [hr]
  refine ⟨P ++ Q ++ [e'], ck + 1, rfl, ⟨P1, h1.perm hperm, ?_, ?_, h.bc, ⟨by have := h.ckT; omega, by have := h.ckT; omega⟩, ?_, by rw [hlen]; exact h.cap, h.frr⟩, ⟨hF.os, hF.tape, hF.output, hF.size, fun k hk hn => hF.block k hk (fun q => by
    rcases q with q | q
    · exact hn (.inl q)
    · exact hn (.inr (.inr ⟨e, he, q.symm⟩)))⟩, fun k hk => .inl ?_⟩
  · rw [List.pairwise_append]
    refine ⟨h.ord.sublist hsl, by simp, fun x hx y hy => ?_⟩
    obtain rfl : y = e' := by simpa using hy
    rw [hu]
    have := h.clk x (hsub x hx)
    omega
  · intro x hx
    rcases List.mem_append.1 hx with hx | hx
    · have := h.clk x (hsub x hx); omega
    · obtain rfl : x = e' := by simpa using hx
      omega
  · intro x hx
    rcases List.mem_append.1 hx with hx | hx
    · have := h.pT x (hsub x hx); omega
    · obtain rfl : x = e' := by simpa using hx
      exact hp
  · rcases hk with hk | hk | ⟨x, hx, hk⟩
    · exact .inl hk
    · exact .inr (.inl hk)
    · rcases List.mem_append.1 hx with hx | hx
      · exact .inr (.inr ⟨x, hsub x hx, hk⟩)
      · obtain rfl : x = e' := by simpa using hx
        exact .inr (.inr ⟨e, he, ha.symm.trans hk⟩)
theorem CIs.turned {T' : Nat} (h : CIs B w cb mb fr ck T (P ++ e :: Q)) (hTT : T ≤ T') (hb : e'.b = e.b) (ha : e'.a = e.a) (hu : e'.u = e.u) (hp : 0 ≤ e'.p ∧ e'.p ≤ T') (P2 : w'.heap[e.a]? = some (.cells (cells e') 65 (0, 0))) (hF : Fr w w' (fun k => k = e.a)) :
    CIs B w' cb mb fr ck T' (P ++ e' :: Q) ∧ Fr w w' (fp cb mb (P ++ e :: Q)) ∧ ∀ k, fp cb mb (P ++ e' :: Q) k → fp cb mb (P ++ e :: Q) k := by
  have he : e ∈ P ++ e :: Q := List.mem_append_right _ (List.mem_cons_self ..)
  have hnm : ∀ x ∈ P ++ e :: Q, x.a ≠ e.a → w'.heap[x.a]? = w.heap[x.a]? := fun x hx hne => hF.block x.a (h.hel.lt hx) hne
  have hmb : w'.heap[mb]? = w.heap[mb]? := hF.block mb h.hel.mlt (fun q => h.hel.ne he q.symm)
  have hcb : w'.heap[cb]? = w.heap[cb]? := hF.block cb (blk_lt h.blk) (fun q => h.cne he q.symm)
  have hin : ∀ x ∈ P ++ e' :: Q, x = e' ∨ x ∈ P ++ e :: Q := fun x hx => by
    rcases List.mem_append.1 hx with hx | hx
    · exact .inr (List.mem_append_left _ hx)
    · rcases List.mem_cons.1 hx with hx | hx
      · exact .inl hx
      · exact .inr (List.mem_append_right _ (List.mem_cons_of_mem _ hx))
  have eu : (P ++ e' :: Q).map Ent.u = (P ++ e :: Q).map Ent.u := by rw [List.map_append, List.map_cons, List.map_append, List.map_cons, hu]
  refine ⟨⟨hcb.trans h.blk, h.hel.put hb ha hmb P2 hnm, ?_, ?_, h.bc, ⟨h.ckT.1, by have := h.ckT.2; omega⟩, ?_, by have := h.cap; simpa using this, h.frr⟩, ⟨hF.os, hF.tape, hF.output, hF.size, fun k hk hn => hF.block k hk (fun q => hn (.inr (.inr ⟨e, he, q.symm⟩)))⟩, fun k hk => ?_⟩
  · have h1 : ((P ++ e :: Q).map Ent.u).Pairwise (· < ·) := List.pairwise_map.2 h.ord
    rw [← eu] at h1
    exact List.pairwise_map.1 h1
  · intro x hx
    rcases hin x hx with rfl | hx
    · rw [hu]; exact h.clk e he
    · exact h.clk x hx
  · intro x hx
    rcases hin x hx with rfl | hx
    · exact hp
    · have := h.pT x hx; omega
  · rcases hk with hk | hk | ⟨x, hx, hk⟩
    · exact .inl hk
    · exact .inr (.inl hk)
    · rcases hin x hx with rfl | hx
      · exact .inr (.inr ⟨e, he, ha.symm.trans hk⟩)
      · exact .inr (.inr ⟨x, hx, hk⟩)
theorem mapB_one (h : ((P ++ e :: Q).map Ent.b).Nodup) (g : F → F) (hg : e'.f = g e.f) : (P ++ e' :: Q).map Ent.f = mapB ((P ++ e :: Q).map Ent.f) e.b g := by
  rw [List.map_append, List.map_cons, List.nodup_append, List.nodup_cons] at h
  have h1 : ∀ x ∈ P, x.b ≠ e.b := fun x hx q => h.2.2 _ (List.mem_map_of_mem hx) _ (List.mem_cons_self ..) q
  have h2 : ∀ x ∈ Q, x.b ≠ e.b := fun x hx q => h.2.1.1 (q ▸ List.mem_map_of_mem hx)
  unfold mapB
  rw [List.map_map, List.map_append, List.map_cons, List.map_append, List.map_cons]
  have e1 : P.map ((fun f => if f.b = e.b then g f else f) ∘ Ent.f) = P.map Ent.f := List.map_congr_left fun x hx => if_neg (h1 x hx)
  have e2 : Q.map ((fun f => if f.b = e.b then g f else f) ∘ Ent.f) = Q.map Ent.f := List.map_congr_left fun x hx => if_neg (h2 x hx)
  rw [e1, e2, hg]
  show _ = P.map Ent.f ++ (if e.f.b = e.b then g e.f else e.f) :: Q.map Ent.f
  rw [if_pos (show e.f.b = e.b from rfl)]
theorem look_f (E : List Ent) (k : Int) : (fnd Ent.b E k = none ∧ look E k = .pointer none ∧ fnd F.b (E.map Ent.f) k = none) ∨ ∃ e, e ∈ E ∧ e.b = k ∧ fnd Ent.b E k = some e ∧ look E k = ptr e.a ∧ fnd F.b (E.map Ent.f) k = some e.f := by
  unfold look
  rw [fnd_f]
  cases h : fnd Ent.b E k with
  | none => exact .inl ⟨rfl, rfl, rfl⟩
  | some e =>
    obtain ⟨h1, h2⟩ := fnd_mem h
    exact .inr ⟨e, h1, h2, rfl, rfl, rfl⟩
set_option maxHeartbeats 3200000 in
set_option maxRecDepth 100000 in
theorem look_calls (h : CIs B w cb mb fr ck T E) (k : Int) (hT : T < 1000000) : Calls Try.prog 14 #[ptr cb, .int .i64 k] w fun x w' => x = .returned (.tuple #[.string (lookS (E.map Ent.f) k).2.1, .bool (lookS (E.map Ent.f) k).2.2]) ∧ CPost B cb mb fr (T + 1) E w (lookS (E.map Ent.f) k).1 w' := by
  have hpf := Try.underlying59
  have hf := Try.underlying65
  have hA := Aside0.mk (at_calls h k)
  rcases look_f E k with ⟨h1, h2, h3⟩ | ⟨e, he, rfl, h1, h2, h3⟩
  · have hL : lookS (E.map Ent.f) k = (E.map Ent.f, zs, false) := by unfold lookS; rw [h3]
    rw [hL]
    rw [h2] at hA
    have HP := Aside0.mk (h.stay (Below.refl _ _))
    clear h h1 h2 h3 hL
    unfold ptr at *
    go_enter Try.func14, Try.ntmps14
    go_wp2_with fail
    refine hA.out.mono ?_
    rintro x w1 ⟨rfl, rfl⟩
    go_wp2_with fail
    go_ret2
    exact ⟨rfl, HP.out⟩
  · have hL : lookS (E.map Ent.f) e.b = (rest F.b (E.map Ent.f) e.b ++ [e.f], e.d, true) := by unfold lookS; rw [h3]; rfl
    rw [hL]
    rw [h2] at hA
    have hU := Aside0.mk (use_calls h he hT)
    have HPo : Aside0 (∀ w', w'.heap[cb]? = some (.cells #[.int .i64 fr, .int .i64 (ck + 1), .map (some mb)] 57 (0, 0)) → w'.heap[e.a]? = some (.cells #[.int .i64 e.p, .int .i64 (ck + 1), .string e.d, .bool e.y] 65 (0, 0)) → Fr w w' (fun k => k = cb ∨ k = e.a) → CPost B cb mb fr (T + 1) E w (rest F.b (E.map Ent.f) e.b ++ [e.f]) w') := ⟨fun w' p1 p2 hF => by
      have := h.used (e' := { e with u := ck + 1 }) he rfl rfl rfl (by have := h.pT e he; show 0 ≤ e.p ∧ e.p ≤ ((T + 1 : Nat) : Int); omega) p1 p2 hF
      rw [List.map_append, rest_f] at this
      exact this⟩
    clear h h1 h2 h3 hL he
    unfold ptr at *
    go_enter Try.func14, Try.ntmps14
    go_wp2_with fail
    refine hA.out.mono ?_
    rintro x w1 ⟨rfl, rfl⟩
    go_wp2_with fail
    refine hU.out.mono ?_
    rintro x w2 ⟨rfl, p1, p2, hF⟩
    have e2 := (blk_cell p2 2).trans (Eq.refl (some (Value.string e.d)))
    have HP := Aside0.mk (HPo.out w2 p1 p2 hF)
    clear p1 p2 hF hU hA HPo
    go_wp2_with fail
    go_ret2
    exact ⟨rfl, HP.out⟩
set_option maxHeartbeats 3200000 in
set_option maxRecDepth 100000 in
theorem store_calls (h : CIs B w cb mb fr ck T E) (k : Int) (d : ByteArray) (hT : T < 1000000) : Calls Try.prog 11 #[ptr cb, .int .i64 k, .string d] w fun x w' => x = .returned (.int .i64 (storeS (E.map Ent.f) k d).2) ∧ CPost B cb mb fr (T + 1) E w (storeS (E.map Ent.f) k d).1 w' := by
  have hpf := Try.underlying59
  have hf := Try.underlying65
  have hA := Aside0.mk (at_calls h k)
  have hR := Aside0.mk (right_calls k d)
  rcases Bool.eq_false_or_eq_true (rightS k d) with hr | hr
  · rw [hr] at hR
    rcases look_f E k with ⟨h1, h2, h3⟩ | ⟨e, he, rfl, h1, h2, h3⟩
    · have hL : storeS (E.map Ent.f) k d = (E.map Ent.f, 6) := by unfold storeS; rw [hr, h3]; rfl
      rw [hL]
      rw [h2] at hA
      have HP := Aside0.mk (h.stay (Below.refl _ _))
      clear h h1 h2 h3 hL hr
      unfold ptr at *
      go_enter Try.func11, Try.ntmps11
      go_wp2_with fail
      refine hA.out.mono ?_
      rintro x w1 ⟨rfl, rfl⟩
      go_wp2_with fail
      refine (hR.out _).mono ?_
      rintro x w1 ⟨rfl, rfl⟩
      go_wp2_with fail
      go_ret
      exact ⟨rfl, HP.out⟩
    · have hL : storeS (E.map Ent.f) e.b d = (rest F.b (E.map Ent.f) e.b ++ [{ e.f with d := d, y := true }], 0) := by unfold storeS; rw [hr, h3]; rfl
      rw [hL]
      rw [h2] at hA
      have hU := Aside0.mk (use_calls h he hT)
      have HPo : Aside0 (∀ w', w'.heap[cb]? = some (.cells #[.int .i64 fr, .int .i64 (ck + 1), .map (some mb)] 57 (0, 0)) → w'.heap[e.a]? = some (.cells #[.int .i64 e.p, .int .i64 (ck + 1), .string d, .bool true] 65 (0, 0)) → Fr w w' (fun k => k = cb ∨ k = e.a) → CPost B cb mb fr (T + 1) E w (rest F.b (E.map Ent.f) e.b ++ [{ e.f with d := d, y := true }]) w') := ⟨fun w' p1 p2 hF => by
        have := h.used (e' := { e with u := ck + 1, d := d, y := true }) he rfl rfl rfl (by have := h.pT e he; show 0 ≤ e.p ∧ e.p ≤ ((T + 1 : Nat) : Int); omega) p1 p2 hF
        rw [List.map_append, rest_f] at this
        exact this⟩
      have hne : Aside0 (cb ≠ e.a) := ⟨fun q => h.cne he q.symm⟩
      clear h h1 h2 h3 hL he hr
      unfold ptr at *
      go_enter Try.func11, Try.ntmps11
      go_wp2_with fail
      refine hA.out.mono ?_
      rintro x w1 ⟨rfl, rfl⟩
      go_wp2_with fail
      refine (hR.out _).mono ?_
      rintro x w1 ⟨rfl, rfl⟩
      go_wp2_with fail
      refine hU.out.mono ?_
      rintro x w2 ⟨rfl, p1, p2, hF⟩
      have e2 := (blk_cell p2 2).trans (Eq.refl (some (Value.string e.d)))
      have e3 := (blk_cell p2 3).trans (Eq.refl (some (Value.bool e.y)))
      have ef := blk_frozen p2
      have q2 : (w2.setCell ⟨e.a, 2, none⟩ (.string d)).heap[e.a]? = some (.cells #[.int .i64 e.p, .int .i64 (ck + 1), .string d, .bool e.y] 65 (0, 0)) := blk_put p2 2 _ (by simp)
      have q3 : ((w2.setCell ⟨e.a, 2, none⟩ (.string d)).setCell ⟨e.a, 3, none⟩ (.bool true)).heap[e.a]? = some (.cells #[.int .i64 e.p, .int .i64 (ck + 1), .string d, .bool true] 65 (0, 0)) := blk_put q2 3 _ (by simp)
      have HP := Aside0.mk (HPo.out ((w2.setCell ⟨e.a, 2, none⟩ (.string d)).setCell ⟨e.a, 3, none⟩ (.bool true)) ((Below.heap_setCell _ ⟨e.a, 3, none⟩ _ cb hne.out).trans ((Below.heap_setCell _ ⟨e.a, 2, none⟩ _ cb hne.out).trans p1)) q3 ((hF.trans (fr_set1 w2 e.a 2 (.string d)) (fun k hk => .inl (.inr hk))).trans (fr_set1 _ e.a 3 (.bool true)) (fun k hk => .inl (.inr hk))))
      have HD : Aside0 (Below ((w2.setCell ⟨e.a, 2, none⟩ (.string d)).setCell ⟨e.a, 3, none⟩ (.bool true)).heap.size ((w2.setCell ⟨e.a, 2, none⟩ (.string d)).setCell ⟨e.a, 3, none⟩ (.bool true)) ((w2.setCell ⟨e.a, 2, none⟩ (.string d)).setCell ⟨e.a, 3, none⟩ (.bool true)).drew) := ⟨below_drew1 (Below.refl _ _)⟩
      clear p1 p2 hF hU hA HPo q2 q3
      go_wp2_with fail
      go_ret
      exact ⟨rfl, HP.out⟩
  · have hL : storeS (E.map Ent.f) k d = (E.map Ent.f, 1) := by unfold storeS; rw [hr]; rfl
    rw [hL]
    rw [hr] at hR
    have HP := Aside0.mk (h.stay (Below.refl _ _))
    generalize look E k = v at hA
    clear h hL hr
    unfold ptr at *
    go_enter Try.func11, Try.ntmps11
    go_wp2_with fail
    refine hA.out.mono ?_
    rintro x w1 ⟨rfl, rfl⟩
    go_wp2_with fail
    refine (hR.out _).mono ?_
    rintro x w1 ⟨rfl, rfl⟩
    go_wp2_with fail
    go_ret
    exact ⟨rfl, HP.out⟩
set_option maxHeartbeats 3200000 in
set_option maxRecDepth 100000 in
theorem pin_calls (h : CIs B w cb mb fr ck T E) (k : Int) (hT : T < 1000000) : Calls Try.prog 22 #[ptr cb, .int .i64 k] w fun x w' => x = .returned (.int .i64 (pinS (E.map Ent.f) k).2) ∧ CPost B cb mb fr (T + 1) E w (pinS (E.map Ent.f) k).1 w' := by
  have hpf := Try.underlying59
  have hf := Try.underlying65
  have huu := Try.underlying63
  have hA := Aside0.mk (at_calls h k)
  rcases look_f E k with ⟨h1, h2, h3⟩ | ⟨e, he, rfl, h1, h2, h3⟩
  · have hL : pinS (E.map Ent.f) k = (E.map Ent.f, 6) := by unfold pinS; rw [h3]
    rw [hL]
    rw [h2] at hA
    have HP := Aside0.mk (h.stay (Below.refl _ _))
    clear h h1 h2 h3 hL
    unfold ptr at *
    go_enter Try.func22, Try.ntmps22
    go_wp2_with fail
    refine hA.out.mono ?_
    rintro x w1 ⟨rfl, rfl⟩
    go_wp2_with fail
    go_ret
    exact ⟨rfl, HP.out⟩
  · have hL : pinS (E.map Ent.f) e.b = (mapB (E.map Ent.f) e.b fun f => { f with p := f.p + 1 }, 0) := by unfold pinS; rw [h3]
    rw [hL]
    rw [h2] at hA
    have p2 := h.hel.cel e he
    unfold cells at p2
    have e0 := (blk_cell p2 0).trans (Eq.refl (some (Value.int .i64 e.p)))
    have ef := blk_frozen p2
    have q2 : (w.setCell ⟨e.a, 0, none⟩ (.int .i64 (e.p + 1))).heap[e.a]? = some (.cells #[.int .i64 (e.p + 1), .int .i64 e.u, .string e.d, .bool e.y] 65 (0, 0)) := blk_put p2 0 _ (by simp)
    have wr1 : wrap64 (e.p + 1) = e.p + 1 := by have := h.pT e he; unfold wrap64; omega
    have HP : Aside0 (CPost B cb mb fr (T + 1) E w (mapB (E.map Ent.f) e.b fun f => { f with p := f.p + 1 }) (w.setCell ⟨e.a, 0, none⟩ (.int .i64 (e.p + 1)))) := ⟨by
      obtain ⟨P, Q, rfl⟩ := List.append_of_mem he
      obtain ⟨k1, k2, k3⟩ := h.turned (T' := T + 1) (e' := { e with p := e.p + 1 }) (Nat.le_succ _) rfl rfl rfl (by have := h.pT e he; show 0 ≤ e.p + 1 ∧ e.p + 1 ≤ ((T + 1 : Nat) : Int); omega) q2 (fr_set1 w e.a 0 _)
      exact ⟨_, ck, mapB_one h.hel.nb (fun f => { f with p := f.p + 1 }) rfl, k1, k2, fun k hk => .inl (k3 k hk)⟩⟩
    clear h h1 h2 h3 hL he p2 q2
    unfold ptr at *
    go_enter Try.func22, Try.ntmps22
    go_wp2_with fail
    refine hA.out.mono ?_
    rintro x w1 ⟨rfl, rfl⟩
    go_wp2_with fail
    go_ret
    exact ⟨rfl, HP.out⟩
set_option maxHeartbeats 3200000 in
set_option maxRecDepth 100000 in
theorem unpin_calls (h : CIs B w cb mb fr ck T E) (k : Int) (hT : T < 1000000) : Calls Try.prog 23 #[ptr cb, .int .i64 k] w fun x w' => x = .returned (.int .i64 (unpinS (E.map Ent.f) k).2) ∧ CPost B cb mb fr (T + 1) E w (unpinS (E.map Ent.f) k).1 w' := by
  have hpf := Try.underlying59
  have hf := Try.underlying65
  have huu := Try.underlying63
  have hA := Aside0.mk (at_calls h k)
  rcases look_f E k with ⟨h1, h2, h3⟩ | ⟨e, he, rfl, h1, h2, h3⟩
  · have hL : unpinS (E.map Ent.f) k = (E.map Ent.f, 6) := by unfold unpinS; rw [h3]
    rw [hL]
    rw [h2] at hA
    have HP := Aside0.mk (h.stay (Below.refl _ _))
    clear h h1 h2 h3 hL
    unfold ptr at *
    go_enter Try.func23, Try.ntmps23
    go_wp2_with fail
    refine hA.out.mono ?_
    rintro x w1 ⟨rfl, rfl⟩
    go_wp2_with fail
    go_ret
    exact ⟨rfl, HP.out⟩
  · have p2 := h.hel.cel e he
    unfold cells at p2
    have e0 := (blk_cell p2 0).trans (Eq.refl (some (Value.int .i64 e.p)))
    rw [h2] at hA
    by_cases hz : e.p = 0
    · have hL : unpinS (E.map Ent.f) e.b = (E.map Ent.f, 7) := by unfold unpinS; rw [h3]; exact if_pos hz
      rw [hL]
      have b1 : (e.p == 0) = true := by simpa using hz
      have HP := Aside0.mk (h.stay (Below.refl _ _))
      clear h h1 h2 h3 hL he p2 hz
      unfold ptr at *
      go_enter Try.func23, Try.ntmps23
      go_wp2_with fail
      refine hA.out.mono ?_
      rintro x w1 ⟨rfl, rfl⟩
      go_wp2_with fail
      go_ret
      exact ⟨rfl, HP.out⟩
    · have hL : unpinS (E.map Ent.f) e.b = (mapB (E.map Ent.f) e.b fun f => { f with p := f.p - 1 }, 0) := by unfold unpinS; rw [h3]; exact if_neg hz
      rw [hL]
      have b1 : (e.p == 0) = false := by simpa using hz
      have ef := blk_frozen p2
      have q2 : (w.setCell ⟨e.a, 0, none⟩ (.int .i64 (e.p - 1))).heap[e.a]? = some (.cells #[.int .i64 (e.p - 1), .int .i64 e.u, .string e.d, .bool e.y] 65 (0, 0)) := blk_put p2 0 _ (by simp)
      have wr1 : wrap64 (e.p - 1) = e.p - 1 := by have := h.pT e he; unfold wrap64; omega
      have HP : Aside0 (CPost B cb mb fr (T + 1) E w (mapB (E.map Ent.f) e.b fun f => { f with p := f.p - 1 }) (w.setCell ⟨e.a, 0, none⟩ (.int .i64 (e.p - 1)))) := ⟨by
        obtain ⟨P, Q, rfl⟩ := List.append_of_mem he
        obtain ⟨k1, k2, k3⟩ := h.turned (T' := T + 1) (e' := { e with p := e.p - 1 }) (Nat.le_succ _) rfl rfl rfl (by have := h.pT e he; show 0 ≤ e.p - 1 ∧ e.p - 1 ≤ ((T + 1 : Nat) : Int); omega) q2 (fr_set1 w e.a 0 _)
        exact ⟨_, ck, mapB_one h.hel.nb (fun f => { f with p := f.p - 1 }) rfl, k1, k2, fun k hk => .inl (k3 k hk)⟩⟩
      clear h h1 h2 h3 hL he p2 q2 hz
      unfold ptr at *
      go_enter Try.func23, Try.ntmps23
      go_wp2_with fail
      refine hA.out.mono ?_
      rintro x w1 ⟨rfl, rfl⟩
      go_wp2_with fail
      go_ret
      exact ⟨rfl, HP.out⟩
end
end Go.Proofs.Ytikefafpkclgeaa.Cache
