/- The cache as the laws use it: Cch; block; speaks. -/
import Derived.Test.YtikefafpkclgeaaCacheT
import Derived.Laws.BytesArg
set_option linter.unusedVariables false
set_option linter.unusedSimpArgs false
namespace Go.Proofs.Ytikefafpkclgeaa.Cache
open Go.RowKit Go.Shelf Go.Proofs.YtikefafpkclgeaaW.PrintWords Go.Proofs.YtikefafpkclgeaaW.PrintLast Go.Proofs.YtikefafpkclgeaaW.PrintMore Go.Proofs.Ytikefafpkclgeaa.Maps Go.Proofs.Ytikefafpkclgeaa.CacheS
theorem info5 : (Try.prog.info? 5).map (fun i => (i.zero, i.size, i.bytes)) = some (some (.int .u8 0), 1, 1) := by kernel_rfl
def blockB (c : Int) : ByteArray := strOfNums (List.replicate 128 c)
theorem blockB_size (c : Int) : (blockB c).size = 128 := by unfold blockB; rw [strOfNums_size, List.length_replicate]
/-- i letters are laid. -/
def filled (c : Int) (i : Nat) : List Int := List.replicate i c ++ List.replicate (128 - i) 0
theorem filled_length (c : Int) (i : Nat) (h : i ≤ 128) : (filled c i).length = 128 := by simp [filled]; omega
theorem filled_set (c : Int) (i : Nat) (h : i < 128) : (filled c i).set i c = filled c (i + 1) := by
  unfold filled
  obtain ⟨m, hm⟩ : ∃ m, 128 - i = m + 1 := ⟨127 - i, by omega⟩
  rw [hm, show 128 - (i + 1) = m by omega, List.set_append_right _ _ (by simp), List.replicate_succ]
  simp [List.replicate_succ']
theorem nums_get (k : IntKind) (l : List Int) (j : Nat) (h : j < l.length) : (nums k l).toArray[j]? = some (.int k (l.getD j 0)) := by
  simp [nums, List.getElem?_eq_getElem h]
theorem filled_all (c : Int) : filled c 128 = List.replicate 128 c := by unfold filled; rw [Nat.sub_self, List.replicate_zero, List.append_nil]
set_option maxHeartbeats 800000 in
set_option maxRecDepth 100000 in
theorem block_any (c : Int) (w : World) : Calls Try.prog 24 #[.int .u8 c] w fun e w' => e = .returned (.string (blockB c)) ∧ Below w.heap.size w w' := by
  have km := print_make (P := Try.prog) 84 5 .u8 1 Try.underlying84 info5 (by decide) 128 (by omega)
  have P0 := Aside0.mk (blk_new w (.cells (nums .u8 (filled c 0)).toArray 5))
  have hm : madeCells #[Value.int .u8 0] 128 = (nums .u8 (filled c 0)).toArray := by kernel_rfl
  rw [hm] at km
  clear hm
  replace km : ∀ W : World, (Instr.makeSlice 84 (.int .i64 128) (.int .i64 128)).run Try.prog W = .ok (.slice (some ⟨W.heap.size, 0, none⟩) 128 128) (W.alloc (.cells (nums .u8 (filled c 0)).toArray 5)) := km
  go_enter Try.func24, Try.ntmps24
  go_wp2
  go_loopw [8] (fun v8 wr => ∃ i : Nat, i ≤ 128 ∧ v8 = .int .i64 (i : Int) ∧ Aside0 (wr.heap[w.heap.size]? = some (.cells (nums .u8 (filled c i)).toArray 5 (0, 0))) ∧ Aside0 (Below w.heap.size w wr)) (fun v _ => 128 - (intOf v).toNat)
  case atStart => exact ⟨0, by omega, rfl, P0, ⟨below_alloc (Below.refl _ _) _⟩⟩
  case round =>
    obtain ⟨i, hi, rfl, HP, HB⟩ := hrel
    by_cases hlt : i < 128
    · have k1 := blk_cell HP.out i
      have k2 := blk_frozen HP.out i
      have k3 := nums_get .u8 (filled c i) i (by rw [filled_length c i hi]; exact hlt)
      rw [k3] at k1
      clear k3
      go_wp2
      go_roundw
      case rel => exact ⟨i + 1, by omega, by simp, ⟨by
        rw [blk_set HP.out i _, ← filled_set c i hlt]
        simp [nums]⟩, ⟨HB.out.setCell (Nat.le_refl _) _⟩⟩
      case measure => simp [intOf]; omega
    · obtain rfl : i = 128 := by omega
      have kb := run_convert_bytes_arg (P := Try.prog) wr 84 5 Try.underlying84 Try.underlying5 w.heap.size 0 128 128 (List.replicate 128 c) List.length_replicate (fun j hj => by
        rw [Nat.zero_add, blk_cell HP.out j]
        rw [filled_all, nums_get .u8 _ j (by rw [List.length_replicate]; exact hj)]) 9 Try.underlying9
      go_wp2
      go_ret
      exact ⟨rfl, HB.out⟩
/-- A cache at cb holds L; the blocks X are another's. -/
def Cch (W w : World) (cb : Nat) (fr : Int) (T : Nat) (X : Nat → Prop) (L : List F) : Prop := ∃ mb ck E, CIs W.heap.size w cb mb fr ck T E ∧ E.map Ent.f = L ∧ (∀ k, X k → k < w.heap.size ∧ ¬ fp cb mb E k) ∧ Below W.heap.size W w
def Keep (X : Nat → Prop) (w w' : World) : Prop := ∀ k, X k → w'.heap[k]? = w.heap[k]?
section
variable {W w w' : World} {cb : Nat} {fr : Int} {T : Nat} {X Y : Nat → Prop} {L : List F}
theorem Cch.bel (h : Cch W w cb fr T X L) : Below W.heap.size W w := by obtain ⟨_, _, _, _, _, _, h⟩ := h; exact h
theorem Cch.len (h : Cch W w cb fr T X L) : L.length ≤ 64 ∧ (L.length : Int) ≤ fr := by
  obtain ⟨_, _, E, h, rfl, _⟩ := h
  rw [List.length_map]
  exact ⟨h.hel.len, h.cap⟩
theorem Cch.nb (h : Cch W w cb fr T X L) : (L.map F.b).Nodup ∧ ∀ f ∈ L, 0 ≤ f.b ∧ f.b < 1024 := by
  obtain ⟨_, _, E, h, rfl, _⟩ := h
  refine ⟨by rw [List.map_map]; exact h.hel.nb, fun f hf => ?_⟩
  obtain ⟨e, he, rfl⟩ := List.mem_map.1 hf
  exact h.hel.rng e he
theorem Cch.sub (h : Cch W w cb fr T X L) (hY : ∀ k, Y k → X k) : Cch W w cb fr T Y L := by
  obtain ⟨mb, ck, E, h1, h2, h3, h4⟩ := h
  exact ⟨mb, ck, E, h1, h2, fun k hk => h3 k (hY k hk), h4⟩
theorem Cch.below (h : Cch W w cb fr T X L) (hb : Below w.heap.size w w') : Cch W w' cb fr T X L := by
  obtain ⟨mb, ck, E, h1, h2, h3, h4⟩ := h
  exact ⟨mb, ck, E, h1.below hb, h2, fun k hk => ⟨Nat.lt_of_lt_of_le (h3 k hk).1 hb.size, (h3 k hk).2⟩, h4.trans (hb.mono h4.size)⟩
/-- What is new is another's. -/
theorem Cch.more (h : Cch W w cb fr T X L) (hb : Below w.heap.size w w') : Cch W w' cb fr T (fun k => X k ∨ (w.heap.size ≤ k ∧ k < w'.heap.size)) L := by
  obtain ⟨mb, ck, E, h1, h2, h3, h4⟩ := h
  refine ⟨mb, ck, E, h1.below hb, h2, fun k hk => ?_, h4.trans (hb.mono h4.size)⟩
  rcases hk with hk | ⟨hk, hl⟩
  · exact ⟨Nat.lt_of_lt_of_le (h3 k hk).1 hb.size, (h3 k hk).2⟩
  · exact ⟨hl, fun q => by have := h1.lt q; omega⟩
theorem Cch.up (h : Cch W w cb fr T X L) {T' : Nat} (hT : T ≤ T') : Cch W w cb fr T' X L := by
  obtain ⟨mb, ck, E, h1, h2, h3, h4⟩ := h
  exact ⟨mb, ck, E, h1.more hT, h2, h3, h4⟩
/-- Another's blocks are turned. -/
theorem Cch.other (h : Cch W w cb fr T X L) (hF : Fr w w' X) (hX : ∀ k, X k → W.heap.size ≤ k) : Cch W w' cb fr T X L := by
  obtain ⟨mb, ck, E, h1, h2, h3, h4⟩ := h
  exact ⟨mb, ck, E, h1.step fun k hk => hF.block k (h1.lt hk) (fun q => (h3 k q).2 hk), h2, fun k hk => ⟨Nat.lt_of_lt_of_le (h3 k hk).1 hF.size, (h3 k hk).2⟩, Fr.below h4 hF hX h4.size⟩
theorem Cch.post {mb : Nat} {ck : Int} {E : List Ent} {T' : Nat} {L' : List F} (h1 : CIs W.heap.size w cb mb fr ck T E) (h3 : ∀ k, X k → k < w.heap.size ∧ ¬ fp cb mb E k) (h4 : Below W.heap.size W w) (hP : CPost W.heap.size cb mb fr T' E w L' w') : Cch W w' cb fr T' X L' ∧ Keep X w w' := by
  obtain ⟨E', ck', q1, q2, q3, q4⟩ := hP
  refine ⟨⟨mb, ck', E', q2, q1, fun k hk => ⟨Nat.lt_of_lt_of_le (h3 k hk).1 q3.size, fun q => ?_⟩, Fr.below h4 q3 (fun k hk => h1.ge hk) h4.size⟩, fun k hk => q3.block k (h3 k hk).1 (h3 k hk).2⟩
  rcases q4 k q with q | q
  · exact (h3 k hk).2 q
  · have := (h3 k hk).1; omega
theorem Cch.load (h : Cch W w cb fr T X L) (k : Int) (d : ByteArray) (hf1 : 1 ≤ fr) (hT : T < 1000000) : Calls Try.prog 10 #[ptr cb, .int .i64 k, .string d] w fun e w' => e = .returned (.tuple #[.int .i64 (loadS fr L k d).2.1, .int .i64 (loadS fr L k d).2.2]) ∧ Cch W w' cb fr (T + 1) X (loadS fr L k d).1 ∧ Keep X w w' := by
  obtain ⟨mb, ck, E, h1, rfl, h3, h4⟩ := h
  refine (load_calls h1 k d hf1 h4.size hT).mono ?_
  rintro e w' ⟨rfl, hP⟩
  exact ⟨rfl, Cch.post h1 h3 h4 hP⟩
theorem Cch.look (h : Cch W w cb fr T X L) (k : Int) (hT : T < 1000000) : Calls Try.prog 14 #[ptr cb, .int .i64 k] w fun e w' => e = .returned (.tuple #[.string (lookS L k).2.1, .bool (lookS L k).2.2]) ∧ Cch W w' cb fr (T + 1) X (lookS L k).1 ∧ Keep X w w' := by
  obtain ⟨mb, ck, E, h1, rfl, h3, h4⟩ := h
  refine (look_calls h1 k hT).mono ?_
  rintro e w' ⟨rfl, hP⟩
  exact ⟨rfl, Cch.post h1 h3 h4 hP⟩
theorem Cch.store (h : Cch W w cb fr T X L) (k : Int) (d : ByteArray) (hT : T < 1000000) : Calls Try.prog 11 #[ptr cb, .int .i64 k, .string d] w fun e w' => e = .returned (.int .i64 (storeS L k d).2) ∧ Cch W w' cb fr (T + 1) X (storeS L k d).1 ∧ Keep X w w' := by
  obtain ⟨mb, ck, E, h1, rfl, h3, h4⟩ := h
  refine (store_calls h1 k d hT).mono ?_
  rintro e w' ⟨rfl, hP⟩
  exact ⟨rfl, Cch.post h1 h3 h4 hP⟩
theorem Cch.pin (h : Cch W w cb fr T X L) (k : Int) (hT : T < 1000000) : Calls Try.prog 22 #[ptr cb, .int .i64 k] w fun e w' => e = .returned (.int .i64 (pinS L k).2) ∧ Cch W w' cb fr (T + 1) X (pinS L k).1 ∧ Keep X w w' := by
  obtain ⟨mb, ck, E, h1, rfl, h3, h4⟩ := h
  refine (pin_calls h1 k hT).mono ?_
  rintro e w' ⟨rfl, hP⟩
  exact ⟨rfl, Cch.post h1 h3 h4 hP⟩
theorem Cch.unpin (h : Cch W w cb fr T X L) (k : Int) (hT : T < 1000000) : Calls Try.prog 23 #[ptr cb, .int .i64 k] w fun e w' => e = .returned (.int .i64 (unpinS L k).2) ∧ Cch W w' cb fr (T + 1) X (unpinS L k).1 ∧ Keep X w w' := by
  obtain ⟨mb, ck, E, h1, rfl, h3, h4⟩ := h
  refine (unpin_calls h1 k hT).mono ?_
  rintro e w' ⟨rfl, hP⟩
  exact ⟨rfl, Cch.post h1 h3 h4 hP⟩
theorem Cch.take (h : Cch W w cb fr T X L) : Calls Try.prog 12 #[ptr cb] w fun e w' => ∃ v, e = .returned v ∧ w'.ownsRow w.heap.size 37 2 v (tookS L).length (flatC (tookS L)) ∧ Cch W w' cb fr (T + 1) (fun k => X k ∨ (w.heap.size ≤ k ∧ k < w'.heap.size)) (takeS L) ∧ Keep X w w' := by
  obtain ⟨mb, ck, E, h1, rfl, h3, h4⟩ := h
  refine (take_calls h1).mono ?_
  rintro e w' ⟨v, rfl, hr, E', q1, q2, q3, q4⟩
  refine ⟨v, rfl, hr, ⟨mb, ck, E', q2, q1, fun k hk => ?_, Fr.below h4 q3 (fun k hk => h1.ge hk) h4.size⟩, fun k hk => q3.block k (h3 k hk).1 (h3 k hk).2⟩
  rcases hk with hk | ⟨hk, hl⟩
  · exact ⟨Nat.lt_of_lt_of_le (h3 k hk).1 q3.size, fun q => (h3 k hk).2 (q4 k q)⟩
  · exact ⟨hl, fun q => by have := h1.lt (q4 k q); omega⟩
theorem Cch.held (h : Cch W w cb fr T X L) : Calls Try.prog 15 #[ptr cb] w fun e w' => ∃ v, e = .returned v ∧ w'.ownsRow w.heap.size 3 1 v (heldS L).length ((heldS L).map (Value.int .i64)) ∧ Below w.heap.size w w' := by
  obtain ⟨mb, ck, E, h1, rfl, h3, h4⟩ := h
  refine (held_calls h1).mono ?_
  rintro e w' ⟨v, rfl, hr, hb⟩
  refine ⟨v, rfl, ?_, hb⟩
  have e1 : heldS (E.map Ent.f) = E.map Ent.b := by unfold heldS; rw [List.map_map]; rfl
  rw [e1, List.length_map]
  exact hr
theorem Cch.dirty (h : Cch W w cb fr T X L) : Calls Try.prog 13 #[ptr cb] w fun e w' => ∃ v, e = .returned v ∧ w'.ownsRow w.heap.size 37 2 v (dirtyS L).length (flatC (dirtyS L)) ∧ Below w.heap.size w w' := by
  obtain ⟨mb, ck, E, h1, rfl, h3, h4⟩ := h
  exact dirty_calls h1
end
theorem own_at {w : World} {base : Nat} {e : TypeId} {size : Nat} {g n k c : Nat} {xs : List Value} (h : w.ownsRow base e size (.slice (some ⟨g, 0, none⟩) k c) n xs) : base ≤ g ∧ g < w.heap.size := by
  rcases h.2 with ⟨h1, h0⟩ | ⟨g', cap, cur, h1, h2, h3, _⟩
  · cases h1
  · simp only [Value.slice.injEq] at h1
    have : g = g' := by simpa using h1.1
    subst this
    exact ⟨h2, blk_lt h3⟩
theorem old_cell {W W' : World} (hB : Below W.heap.size W W') {p : Addr} {u : Value} (h : W.cell? p = some u) : W'.cell? p = some u := by
  rw [← h]
  exact World.cell?_of_block (hB.block _ (World.block_lt_of_cell? W _ h))
/-- speaks' small cases. -/
theorem rights (k : Int) (d : ByteArray) (h0 : 0 ≤ k) (h1 : k < 1024) (hd : d.size = 128) : rightS k d = true := by unfold rightS; simp [h0, h1, hd]
theorem sp1 (d : ByteArray) (hd : d.size = 128) : loadS 1 [] 1 d = ([⟨1, 0, d, false⟩], -1, 0) := by
  unfold loadS
  rw [rights 1 d (by omega) (by omega) hd]
  rfl
theorem sp2 (d e : ByteArray) (hd : e.size = 128) : loadS 1 [⟨1, 0, d, false⟩] 2 e = ([⟨2, 0, e, false⟩], 1, 0) := by
  unfold loadS
  rw [rights 2 e (by omega) (by omega) hd]
  rfl
theorem sp3 (d e : ByteArray) (hd : e.size = 128) : storeS [⟨2, 0, d, false⟩] 2 e = ([⟨2, 0, e, true⟩], 0) := by
  unfold storeS
  rw [rights 2 e (by omega) (by omega) hd]
  rfl
theorem sp4 (d e : ByteArray) (hd : e.size = 128) : loadS 1 [⟨2, 0, d, true⟩] 3 e = ([⟨2, 0, d, true⟩], 0, 5) := by
  unfold loadS
  rw [rights 3 e (by omega) (by omega) hd]
  rfl
theorem sp5 (d : ByteArray) : dirtyS [⟨2, 0, d, true⟩] = [(2, d)] := by
  unfold dirtyS heldS rise
  simp [dsel, fnd]
theorem sp6 (d : ByteArray) : tookS [⟨2, 0, d, true⟩] = [(2, d)] := by unfold tookS; rw [sp5]; rfl
theorem sp7 (d : ByteArray) : takeS [⟨2, 0, d, true⟩] = [⟨2, 0, d, false⟩] := by unfold takeS; rw [sp6]; rfl
theorem sp8 (d e : ByteArray) (hd : e.size = 128) : loadS 1 [⟨2, 0, d, false⟩] 3 e = ([⟨3, 0, e, false⟩], 2, 0) := by
  unfold loadS
  rw [rights 3 e (by omega) (by omega) hd]
  rfl
theorem sp9 (d : ByteArray) : lookS [⟨3, 0, d, false⟩] 3 = ([⟨3, 0, d, false⟩], d, true) := rfl
theorem Cch.new {W w : World} {cb mb : Nat} {fr : Int} (h : CIs W.heap.size w cb mb fr 0 0 []) (hb : Below W.heap.size W w) (X : Nat → Prop) (hX : ∀ k, X k → k < w.heap.size ∧ ¬ fp cb mb [] k) : Cch W w cb fr 0 X [] := ⟨mb, 0, [], h, rfl, hX, hb⟩
set_option maxHeartbeats 12800000 in
set_option maxRecDepth 100000 in
theorem speaks_calls (w : World) : Calls Try.prog 9 #[] w fun e w' => e = .returned (.bool true) ∧ Below w.heap.size w w' := by
  have hup := Try.underlying23
  have huc := Try.underlying37
  obtain ⟨da, hda⟩ : ∃ d, d = blockB 97 := ⟨_, rfl⟩
  obtain ⟨db, hdb⟩ : ∃ d, d = blockB 98 := ⟨_, rfl⟩
  obtain ⟨dc, hdc⟩ : ∃ d, d = blockB 99 := ⟨_, rfl⟩
  obtain ⟨dd, hdd⟩ : ∃ d, d = blockB 100 := ⟨_, rfl⟩
  have S := Aside0.mk (And.intro (show da.size = 128 by rw [hda]; exact blockB_size _) (And.intro (show db.size = 128 by rw [hdb]; exact blockB_size _) (And.intro (show dc.size = 128 by rw [hdc]; exact blockB_size _) (show dd.size = 128 by rw [hdd]; exact blockB_size _))))
  have BA := Aside0.mk (fun W => block_any 97 W)
  have BB := Aside0.mk (fun W => block_any 98 W)
  have BC := Aside0.mk (fun W => block_any 99 W)
  have BD := Aside0.mk (fun W => block_any 100 W)
  rw [← hda] at BA
  rw [← hdb] at BB
  rw [← hdc] at BC
  rw [← hdd] at BD
  clear hda hdb hdc hdd
  go_enter Try.func9, Try.ntmps9
  go_wp2_with fail
  refine (new_yes 1 w w.heap.size (Nat.le_refl _) (by omega) (by omega)).mono ?_
  rintro e w1 ⟨cb, mb, rfl, hI, hB, -⟩
  have C1 : Aside0 (Cch w w1 cb 1 0 (fun _ => False) []) := ⟨Cch.new hI hB _ (fun k hk => hk.elim)⟩
  clear hI hB
  unfold ptr
  go_wp2_with fail
  refine (BA.out _).mono ?_
  rintro e w2 ⟨rfl, hb⟩
  have C2 := Aside0.mk (C1.out.below hb)
  clear hb
  have hP := C2.out.load 1 da (by omega) (by omega)
  rw [sp1 da S.out.1] at hP
  have HP := Aside0.mk hP
  unfold ptr at HP
  clear hP
  go_wp2_with fail
  refine HP.out.mono ?_
  rintro e w3 ⟨rfl, hC, -⟩
  have C3 := Aside0.mk hC
  clear hC HP
  go_wp2_with fail
  refine (BB.out _).mono ?_
  rintro e w4 ⟨rfl, hb⟩
  have C4 := Aside0.mk (C3.out.below hb)
  clear hb
  have hP := C4.out.load 2 db (by omega) (by omega)
  rw [sp2 da db S.out.2.1] at hP
  have HP := Aside0.mk hP
  unfold ptr at HP
  clear hP
  go_wp2_with fail
  refine HP.out.mono ?_
  rintro e w5 ⟨rfl, hC, -⟩
  have C5 := Aside0.mk hC
  clear hC HP
  go_wp2_with fail
  refine (BC.out _).mono ?_
  rintro e w6 ⟨rfl, hb⟩
  have C6 := Aside0.mk (C5.out.below hb)
  clear hb
  have hP := C6.out.store 2 dc (by omega)
  rw [sp3 db dc S.out.2.2.1] at hP
  have HP := Aside0.mk hP
  unfold ptr at HP
  clear hP
  go_wp2_with fail
  refine HP.out.mono ?_
  rintro e w7 ⟨rfl, hC, -⟩
  have C7 := Aside0.mk hC
  clear hC HP
  go_wp2_with fail
  refine (BD.out _).mono ?_
  rintro e w8 ⟨rfl, hb⟩
  have C8 := Aside0.mk (C7.out.below hb)
  clear hb
  have hP := C8.out.load 3 dd (by omega) (by omega)
  rw [sp4 dc dd S.out.2.2.2] at hP
  have HP := Aside0.mk hP
  unfold ptr at HP
  clear hP
  go_wp2_with fail
  refine HP.out.mono ?_
  rintro e w9 ⟨rfl, hC, -⟩
  have C9 := Aside0.mk hC
  clear hC HP
  have hP := C9.out.take
  rw [sp6, sp7] at hP
  have HP := Aside0.mk hP
  unfold ptr at HP
  clear hP
  go_wp2_with fail
  refine HP.out.mono ?_
  rintro e w10 ⟨v, rfl, hr, hC, -⟩
  obtain ⟨A, c, rfl⟩ := own_slice hr
  have hl1 : [((2 : Int), dc)].length = 1 := rfl
  rw [hl1] at hr ⊢
  have R10 := Aside0.mk hr
  have C10 := Aside0.mk hC
  clear hr hC HP hl1
  go_wp2_with fail
  refine (BD.out _).mono ?_
  rintro e w11 ⟨rfl, hb⟩
  have C11 := Aside0.mk (C10.out.below hb)
  have R11 := Aside0.mk (own_below R10.out hb)
  have S11 : Aside0 (w10.heap.size ≤ w11.heap.size) := ⟨hb.size⟩
  clear hb
  have hP := C11.out.load 3 dd (by omega) (by omega)
  rw [sp8 dc dd S.out.2.2.2] at hP
  have HP := Aside0.mk hP
  unfold ptr at HP
  clear hP
  go_wp2_with fail
  refine HP.out.mono ?_
  rintro e w12 ⟨rfl, hC, hK⟩
  have C12 := Aside0.mk hC
  obtain ⟨g, rfl, -, y1⟩ := crow_at R10.out (i := 0) rfl
  have hg : w9.heap.size ≤ g ∧ g < w10.heap.size := own_at R10.out
  have y11 : w11.cell? ⟨g, 1, none⟩ = some (.string dc) := by
    obtain ⟨g', e1, -, y⟩ := crow_at R11.out (i := 0) rfl
    have : g' = g := by simpa using e1.symm
    rw [← this]
    exact y
  have y12 : w12.cell? ⟨g, 1, none⟩ = some (.string dc) := (World.cell?_of_block (hK g (.inr hg))).trans y11
  have Y12 := Aside0.mk y12
  have HG := Aside0.mk hg
  clear hC HP hK y1 y11 y12 hg
  have hP := C12.out.look 3 (by omega)
  rw [sp9] at hP
  have HP := Aside0.mk hP
  unfold ptr at HP
  clear hP
  go_wp2_with fail
  refine HP.out.mono ?_
  rintro e w13 ⟨rfl, hC, hK⟩
  have C13 := Aside0.mk hC
  have y13 : w13.cell? ⟨g, 1, none⟩ = some (.string dc) := (World.cell?_of_block (hK g (.inr HG.out))).trans Y12.out
  have B0 : Aside0 (Below w13.heap.size w13 w13.drew) := ⟨below_drew1 (Below.refl _ _)⟩
  have HCr : Aside0 (∀ w' : World, Below w13.heap.size w13 w' → w'.cell? ⟨g, 1, none⟩ = some (.string dc)) := ⟨fun w' hb => old_cell hb y13⟩
  clear hC hK HP
  go_wp2_with fail
  go_region_held3 (fun w' => w'.cell? ⟨g, 1, none⟩ = some (.string dc)) (first | exact HCr.out _ B2.out | exact HCr.out _ B1.out | exact HCr.out _ B0.out) (first
    | (go_at_call 24; first
      | ((with_reducible refine (BC.out _).mono ?_); rintro e w14 ⟨rfl, hb⟩; have B1 := Aside0.mk (B0.out.trans (hb.mono B0.out.size)); clear hb)
      | ((with_reducible refine (BD.out _).mono ?_); rintro e w15 ⟨rfl, hb⟩; have B2 := Aside0.mk (B1.out.trans (hb.mono B1.out.size)); clear hb)))
  all_goals
    go_wp2_with fail
    go_ret
    exact ⟨by simp, C13.out.bel.trans (B2.out.mono C13.out.bel.size)⟩
end Go.Proofs.Ytikefafpkclgeaa.Cache
