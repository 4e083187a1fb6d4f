/- Both caches side by side, the program's and the document's; asks. -/
import Derived.Test.YtikefafpkclgeaaRCacheT
import Derived.Test.YtikefafpkclgeaaCacheK
set_option linter.unusedVariables false
set_option linter.unusedSimpArgs false
namespace Go.Proofs.Ytikefafpkclgeaa.Cache
open Go.RowKit Go.Proofs.YtikefafpkclgeaaW.PrintWords Go.Proofs.YtikefafpkclgeaaW.PrintLast Go.Proofs.YtikefafpkclgeaaW.PrintMore Go.Proofs.Ytikefafpkclgeaa.Maps Go.Proofs.Ytikefafpkclgeaa.CacheS
structure OkL (n : Int) (L : List F) : Prop where
  nd : (L.map F.b).Nodup
  len : L.length ≤ 64
  pin : ∀ f ∈ L, 0 ≤ f.p ∧ f.p ≤ 1000000
  rng : ∀ f ∈ L, 0 ≤ f.b ∧ f.b < 1024
section
variable {W w w' : World} {cb rb : Nat} {n : Int} {T T' : Nat} {X Y Z : Nat → Prop} {L L' M M' : List F} {v : Value}
theorem Cch.ok (h : Cch W w cb n T X L) (hT : T ≤ 1000000) : OkL n L := by
  obtain ⟨q1, q2⟩ := h.nb
  refine ⟨q1, h.len.1, fun f hf => ?_, q2⟩
  obtain ⟨mb, ck, E, h1, rfl, _⟩ := h
  obtain ⟨e, he, rfl⟩ := List.mem_map.1 hf
  have := h1.pT e he
  exact ⟨this.1, by have := this.2; show e.p ≤ 1000000; omega⟩
theorem Cch.lt (h : Cch W w cb n T X L) {k : Nat} (hk : X k) : k < w.heap.size := by
  obtain ⟨_, _, _, _, _, h3, _⟩ := h
  exact (h3 k hk).1
theorem Cch.otherMore (h : Cch W w cb n T X L) (hF : Fr w w' Z) (hZ : ∀ k, Z k → X k) (hW : ∀ k, Z k → W.heap.size ≤ k) : Cch W w' cb n T (fun k => X k ∨ (w.heap.size ≤ k ∧ k < w'.heap.size)) L := by
  obtain ⟨mb, ck, E, h1, h2, h3, h4⟩ := h
  refine ⟨mb, ck, E, h1.step fun k hk => hF.block k (h1.lt hk) (fun q => (h3 k (hZ k q)).2 hk), h2, fun k hk => ?_, Fr.below h4 hF hW h4.size⟩
  rcases hk with hk | ⟨hk, hl⟩
  · exact ⟨Nat.lt_of_lt_of_le (h3 k hk).1 hF.size, (h3 k hk).2⟩
  · exact ⟨hl, fun q => by have := h1.lt q; omega⟩
/-- The program's cache has L, the document's M; the blocks Y are neither's. -/
def Duo (W w : World) (cb rb : Nat) (n : Int) (T : Nat) (Y : Nat → Prop) (L M : List F) : Prop := ∃ v, Cch W w cb n T (fun k => rf rb v k ∨ Y k) L ∧ RIs W.heap.size w rb v n M ∧ ∀ k, Y k → ¬ rf rb v k
theorem Duo.bel (h : Duo W w cb rb n T Y L M) : Below W.heap.size W w := by obtain ⟨_, h, _⟩ := h; exact h.bel
theorem Duo.ok (h : Duo W w cb rb n T Y L M) (hT : T ≤ 1000000) : OkL n L := by obtain ⟨_, h, _⟩ := h; exact h.ok hT
theorem Duo.sub (h : Duo W w cb rb n T Y L M) (hZ : ∀ k, Z k → Y k) : Duo W w cb rb n T Z L M := by
  obtain ⟨v, h1, h2, h3⟩ := h
  exact ⟨v, h1.sub fun k hk => hk.imp id (hZ k), h2, fun k hk => h3 k (hZ k hk)⟩
theorem Duo.more (h : Duo W w cb rb n T Y L M) (hb : Below w.heap.size w w') : Duo W w' cb rb n T (fun k => Y k ∨ (w.heap.size ≤ k ∧ k < w'.heap.size)) L M := by
  obtain ⟨v, h1, h2, h3⟩ := h
  refine ⟨v, (h1.more hb).sub fun k hk => ?_, h2.below hb, fun k hk => ?_⟩
  · rcases hk with hk | hk | hk
    · exact .inl (.inl hk)
    · exact .inl (.inr hk)
    · exact .inr hk
  · rcases hk with hk | hk
    · exact h3 k hk
    · exact fun q => by have := h2.lt k q; omega
theorem Duo.below (h : Duo W w cb rb n T Y L M) (hb : Below w.heap.size w w') : Duo W w' cb rb n T Y L M := (h.more hb).sub fun k hk => .inl hk
theorem Duo.prog (hR : RIs W.heap.size w rb v n M) (hY : ∀ k, Y k → ¬ rf rb v k) (hC : Cch W w' cb n T' (fun k => rf rb v k ∨ Y k) L') (hK : Keep (fun k => rf rb v k ∨ Y k) w w') : Duo W w' cb rb n T' Y L' M ∧ Keep Y w w' :=
  ⟨⟨v, hC, hR.move fun k hk => hK k (.inl hk), hY⟩, fun k hk => hK k (.inr hk)⟩
theorem Duo.ref (hC : Cch W w cb n T (fun k => rf rb v k ∨ Y k) L) (hR : RIs W.heap.size w rb v n M) (hY : ∀ k, Y k → ¬ rf rb v k) (hP : RPost W.heap.size rb v n w M' w') : Duo W w' cb rb n T Y L M' ∧ Keep Y w w' := by
  obtain ⟨v', h1, h2, h3⟩ := hP
  refine ⟨⟨v', (hC.otherMore h2 (fun k hk => .inl hk) (fun k hk => hR.ge k hk)).sub fun k hk => ?_, h1, fun k hk q => ?_⟩, fun k hk => h2.block k (hC.lt (.inr hk)) (hY k hk)⟩
  · rcases hk with hk | hk
    · have hlt := h1.lt k hk
      rcases hk with hk | hk
      · exact .inl (.inl (.inl hk))
      · rcases h3 k hk with q | q
        · exact .inl (.inl (.inr q))
        · exact .inr ⟨q, hlt⟩
    · exact .inl (.inr hk)
  · have hlt := hC.lt (k := k) (.inr hk)
    rcases q with q | q
    · exact hY k hk (.inl q)
    · rcases h3 k q with q2 | q2
      · exact hY k hk (.inr q2)
      · omega
theorem Duo.load (h : Duo W w cb rb n T Y L M) (k : Int) (d : ByteArray) (hn : 1 ≤ n) (hT : T < 1000000) : Calls Try.prog 10 #[ptr cb, .int .i64 k, .string d] w fun e w' => e = .returned (.tuple #[.int .i64 (loadS n L k d).2.1, .int .i64 (loadS n L k d).2.2]) ∧ Duo W w' cb rb n (T + 1) Y ((loadS n L k d).1) M ∧ Keep Y w w' := by
  obtain ⟨v, h1, h2, h3⟩ := h
  refine (h1.load k d hn hT).mono ?_
  rintro e w' ⟨rfl, hC, hK⟩
  exact ⟨rfl, Duo.prog h2 h3 hC hK⟩
theorem Duo.look (h : Duo W w cb rb n T Y L M) (k : Int) (hT : T < 1000000) : Calls Try.prog 14 #[ptr cb, .int .i64 k] w fun e w' => e = .returned (.tuple #[.string (lookS L k).2.1, .bool (lookS L k).2.2]) ∧ Duo W w' cb rb n (T + 1) Y ((lookS L k).1) M ∧ Keep Y w w' := by
  obtain ⟨v, h1, h2, h3⟩ := h
  refine (h1.look k hT).mono ?_
  rintro e w' ⟨rfl, hC, hK⟩
  exact ⟨rfl, Duo.prog h2 h3 hC hK⟩
theorem Duo.store (h : Duo W w cb rb n T Y L M) (k : Int) (d : ByteArray) (hT : T < 1000000) : Calls Try.prog 11 #[ptr cb, .int .i64 k, .string d] w fun e w' => e = .returned (.int .i64 (storeS L k d).2) ∧ Duo W w' cb rb n (T + 1) Y ((storeS L k d).1) M ∧ Keep Y w w' := by
  obtain ⟨v, h1, h2, h3⟩ := h
  refine (h1.store k d hT).mono ?_
  rintro e w' ⟨rfl, hC, hK⟩
  exact ⟨rfl, Duo.prog h2 h3 hC hK⟩
theorem Duo.pin (h : Duo W w cb rb n T Y L M) (k : Int) (hT : T < 1000000) : Calls Try.prog 22 #[ptr cb, .int .i64 k] w fun e w' => e = .returned (.int .i64 (pinS L k).2) ∧ Duo W w' cb rb n (T + 1) Y ((pinS L k).1) M ∧ Keep Y w w' := by
  obtain ⟨v, h1, h2, h3⟩ := h
  refine (h1.pin k hT).mono ?_
  rintro e w' ⟨rfl, hC, hK⟩
  exact ⟨rfl, Duo.prog h2 h3 hC hK⟩
theorem Duo.unpin (h : Duo W w cb rb n T Y L M) (k : Int) (hT : T < 1000000) : Calls Try.prog 23 #[ptr cb, .int .i64 k] w fun e w' => e = .returned (.int .i64 (unpinS L k).2) ∧ Duo W w' cb rb n (T + 1) Y ((unpinS L k).1) M ∧ Keep Y w w' := by
  obtain ⟨v, h1, h2, h3⟩ := h
  refine (h1.unpin k hT).mono ?_
  rintro e w' ⟨rfl, hC, hK⟩
  exact ⟨rfl, Duo.prog h2 h3 hC hK⟩
theorem Duo.rload (h : Duo W w cb rb n T Y L M) (hk : OkL n M) (k : Int) (d : ByteArray) : Calls Try.prog 36 #[ptr rb, .int .i64 k, .string d] w fun e w' => e = .returned (.tuple #[.int .i64 (loadS n M k d).2.1, .int .i64 (loadS n M k d).2.2]) ∧ Duo W w' cb rb n T Y L ((loadS n M k d).1) ∧ Keep Y w w' := by
  obtain ⟨v, h1, h2, h3⟩ := h
  refine (rload_calls h2 hk.nd hk.len hk.pin k d).mono ?_
  rintro e w' ⟨rfl, hP⟩
  exact ⟨rfl, Duo.ref h1 h2 h3 hP⟩
theorem Duo.rlook (h : Duo W w cb rb n T Y L M) (hk : OkL n M) (k : Int) : Calls Try.prog 37 #[ptr rb, .int .i64 k] w fun e w' => e = .returned (.tuple #[.string (lookS M k).2.1, .bool (lookS M k).2.2]) ∧ Duo W w' cb rb n T Y L ((lookS M k).1) ∧ Keep Y w w' := by
  obtain ⟨v, h1, h2, h3⟩ := h
  refine (rlook_calls h2 hk.nd hk.len k).mono ?_
  rintro e w' ⟨rfl, hP⟩
  exact ⟨rfl, Duo.ref h1 h2 h3 hP⟩
theorem Duo.rstore (h : Duo W w cb rb n T Y L M) (hk : OkL n M) (k : Int) (d : ByteArray) : Calls Try.prog 38 #[ptr rb, .int .i64 k, .string d] w fun e w' => e = .returned (.int .i64 (storeS M k d).2) ∧ Duo W w' cb rb n T Y L ((storeS M k d).1) ∧ Keep Y w w' := by
  obtain ⟨v, h1, h2, h3⟩ := h
  refine (rstore_calls h2 hk.nd hk.len k d).mono ?_
  rintro e w' ⟨rfl, hP⟩
  exact ⟨rfl, Duo.ref h1 h2 h3 hP⟩
theorem Duo.rpin (h : Duo W w cb rb n T Y L M) (hk : OkL n M) (k : Int) : Calls Try.prog 39 #[ptr rb, .int .i64 k] w fun e w' => e = .returned (.int .i64 (pinS M k).2) ∧ Duo W w' cb rb n T Y L ((pinS M k).1) ∧ Keep Y w w' := by
  obtain ⟨v, h1, h2, h3⟩ := h
  refine (rpin_calls h2 hk.nd hk.len hk.pin k).mono ?_
  rintro e w' ⟨rfl, hP⟩
  exact ⟨rfl, Duo.ref h1 h2 h3 hP⟩
theorem Duo.runpin (h : Duo W w cb rb n T Y L M) (hk : OkL n M) (k : Int) : Calls Try.prog 40 #[ptr rb, .int .i64 k] w fun e w' => e = .returned (.int .i64 (unpinS M k).2) ∧ Duo W w' cb rb n T Y L ((unpinS M k).1) ∧ Keep Y w w' := by
  obtain ⟨v, h1, h2, h3⟩ := h
  refine (runpin_calls h2 hk.nd hk.len hk.pin k).mono ?_
  rintro e w' ⟨rfl, hP⟩
  exact ⟨rfl, Duo.ref h1 h2 h3 hP⟩
theorem Duo.take (h : Duo W w cb rb n T Y L M) : Calls Try.prog 12 #[ptr cb] w fun e w' => ∃ v, e = .returned v ∧ w'.ownsRow w.heap.size 37 2 v (tookS L).length (flatC (tookS L)) ∧ Duo W w' cb rb n (T + 1) (fun k => Y k ∨ (w.heap.size ≤ k ∧ k < w'.heap.size)) (takeS L) M ∧ Keep Y w w' := by
  obtain ⟨v, h1, h2, h3⟩ := h
  refine (h1.take).mono ?_
  rintro e w' ⟨u, rfl, hr, hC, hK⟩
  refine ⟨u, rfl, hr, ⟨v, hC.sub fun k hk => ?_, h2.move fun k hk => hK k (.inl hk), fun k hk => ?_⟩, fun k hk => hK k (.inr hk)⟩
  · rcases hk with hk | hk | hk
    · exact .inl (.inl hk)
    · exact .inl (.inr hk)
    · exact .inr hk
  · rcases hk with hk | hk
    · exact h3 k hk
    · exact fun q => by have := h2.lt k q; omega
theorem Duo.rtake (h : Duo W w cb rb n T Y L M) (hk : OkL n M) : Calls Try.prog 41 #[ptr rb] w fun e w' => ∃ u, e = .returned u ∧ w'.ownsRow w.heap.size 37 2 u (tookS M).length (flatC (tookS M)) ∧ Duo W w' cb rb n T Y L (takeS M) ∧ Keep Y w w' := by
  obtain ⟨v, h1, h2, h3⟩ := h
  refine (rtake_calls h2 hk.nd hk.len hk.rng).mono ?_
  rintro e w' ⟨u, rfl, hr, hP⟩
  exact ⟨u, rfl, hr, Duo.ref h1 h2 h3 hP⟩
theorem Duo.held (h : Duo W w cb rb n T Y L M) : Calls Try.prog 15 #[ptr cb] w fun e w' => ∃ v, e = .returned v ∧ w'.ownsRow w.heap.size 3 1 v (heldS L).length ((heldS L).map (Value.int .i64)) ∧ Below w.heap.size w w' := by
  obtain ⟨v, h1, h2, h3⟩ := h
  exact h1.held
theorem Duo.rheld (h : Duo W w cb rb n T Y L M) (hk : OkL n M) : Calls Try.prog 19 #[ptr rb] w fun e w' => ∃ v, e = .returned v ∧ w'.ownsRow w.heap.size 3 1 v (heldS M).length ((heldS M).map (Value.int .i64)) ∧ Below w.heap.size w w' := by
  obtain ⟨v, h1, h2, h3⟩ := h
  exact rheld_calls h2 hk.len
theorem Duo.dirty (h : Duo W w cb rb n T Y L M) : Calls Try.prog 13 #[ptr cb] w fun e w' => ∃ v, e = .returned v ∧ w'.ownsRow w.heap.size 37 2 v (dirtyS L).length (flatC (dirtyS L)) ∧ Below w.heap.size w w' := by
  obtain ⟨v, h1, h2, h3⟩ := h
  exact h1.dirty
theorem Duo.rdirty (h : Duo W w cb rb n T Y L M) (hk : OkL n M) : Calls Try.prog 21 #[ptr rb] w fun e w' => ∃ v, e = .returned v ∧ w'.ownsRow w.heap.size 37 2 v (dirtyS M).length (flatC (dirtyS M)) ∧ Below w.heap.size w w' := by
  obtain ⟨v, h1, h2, h3⟩ := h
  exact rdirty_calls h2 hk.nd hk.len hk.rng
end
theorem eq_change (x : Int × ByteArray) (w : World) : (Op.equalIn 10000 37 (.agg #[.int .i64 x.1, .string x.2]) (.agg #[.int .i64 x.1, .string x.2])).run Try.prog w = .ok true w := by
  have u3 := Try.underlying3
  have u9 := Try.underlying9
  have a3 := Try.isAgg3
  have a9 := Try.isAgg9
  have z3 := Try.sizeOf3
  have z9 := Try.sizeOf9
  have hS : Try.prog.underlying 37 = some (.struct (Try.prog.fieldsOf 37)) := by kernel_rfl
  have hp : Try.prog.stoodInHeld 37 = false := by kernel_rfl
  show (Op.equalIn (9999 + 1) 37 _ _).run Try.prog w = _
  rw [run_equalIn_agg w 9999 37 _ _ hS hp]
  simp only [Program.fieldsOf, Try.underlying37]
  go_simp
set_option maxHeartbeats 12800000 in
set_option maxRecDepth 100000 in
theorem changes_calls {b1 b2 : Nat} {A1 A2 : Option Addr} {c1 c2 : Nat} {l : List (Int × ByteArray)} (w : World) (h1 : w.ownsRow b1 37 2 (.slice A1 l.length c1) l.length (flatC l)) (h2 : w.ownsRow b2 37 2 (.slice A2 l.length c2) l.length (flatC l)) (hl : l.length ≤ 1024) :
    Calls Try.prog 20 #[.slice A1 l.length c1, .slice A2 l.length c2] w fun e w' => e = .returned (.bool true) ∧ Below w.heap.size w w' := by
  have huc := Try.underlying37
  have R := Aside0.mk (And.intro h1 h2)
  have HL := Aside0.mk hl
  clear h1 h2 hl
  go_enter Try.func20, Try.ntmps20
  go_wp2_with fail
  go_loopw [13] (fun z wi => ∃ k : Nat, k ≤ l.length ∧ z = .int .i64 k ∧ Aside0 (Below w.heap.size w wi)) (fun z _ => l.length - (intOf z).toNat)
  case atStart => exact ⟨0, by omega, rfl, ⟨Below.refl _ _⟩⟩
  case round =>
    obtain ⟨k, hk, rfl, I⟩ := hrel
    by_cases hlk : k < l.length
    · obtain ⟨x, hx⟩ : ∃ x, l[k]? = some x := ⟨_, List.getElem?_eq_getElem hlk⟩
      have hb2 : decide ((k : Int) < (l.length : Int)) = true := decide_eq_true (by omega)
      have hk2 : (k : Int) < (l.length : Int) := by omega
      obtain ⟨g1, rfl, x0, x1⟩ := crow_at (own_below R.out.1 I.out) hx
      obtain ⟨g2, rfl, y0, y1⟩ := crow_at (own_below R.out.2 I.out) hx
      have heq : ∀ w : World, (Op.equalIn 10000 37 (.agg #[.int .i64 x.1, .string x.2]) (.agg #[.int .i64 x.1, .string x.2])).run Try.prog w = .ok true w := fun w => eq_change x w
      have BD : Aside0 (Below w.heap.size w wr.drew) := ⟨below_drew1 I.out⟩
      have N1 := Aside0.mk (nxt k l.length hlk HL.out)
      have M1 := Aside0.mk (meas k l.length hlk HL.out)
      clear hx
      go_wp2_with fail
      go_region
      all_goals
        go_wp2_with fail
        go_roundw
        case rel => exact ⟨k + 1, hlk, N1.out, BD⟩
        case measure => exact M1.out
    · obtain rfl : k = l.length := by omega
      have hb2 : decide ((l.length : Int) < (l.length : Int)) = false := decide_eq_false (by omega)
      go_wp2_with fail
      go_ret
      exact ⟨rfl, I.out⟩
set_option maxHeartbeats 12800000 in
set_option maxRecDepth 100000 in
theorem ints_calls {w : World} {b b2 : Nat} {A A2 : Option Addr} {c c2 : Nat} {zs : List Int} (h1 : w.ownsRow b 3 1 (.slice A zs.length c) zs.length (zs.map (Value.int .i64))) (h2 : w.ownsRow b2 3 1 (.slice A2 zs.length c2) zs.length (zs.map (Value.int .i64))) (hl : zs.length ≤ 1000) :
    Calls Try.prog 18 #[.slice A zs.length c, .slice A2 zs.length c2] w fun e w' => e = .returned (.bool true) ∧ Below w.heap.size w w' := by
  have H1 := Aside0.mk h1
  have H2 := Aside0.mk h2
  clear h1 h2
  go_enter Try.func18, Try.ntmps18
  go_wp2_with fail
  go_loopw [13] (fun v13 wr => ∃ i : Nat, i ≤ zs.length ∧ v13 = .int .i64 (i : Int) ∧ Aside0 (Below w.heap.size w wr)) (fun x _ => zs.length - (intOf x).toNat)
  case atStart => exact ⟨0, by omega, rfl, ⟨Below.refl _ _⟩⟩
  case round =>
    obtain ⟨i, hi, rfl, HB⟩ := hrel
    by_cases hlt : i < zs.length
    · obtain ⟨z, hz⟩ : ∃ z, zs[i]? = some z := ⟨_, List.getElem?_eq_getElem hlt⟩
      have hz' : (zs.map (Value.int .i64))[i]? = some (.int .i64 z) := by rw [List.getElem?_map, hz]; rfl
      have r1 := own_move H1.out (w1 := wr) (fun k hk => HB.out.block k (own_lt H1.out k hk))
      have r2 := own_move H2.out (w1 := wr) (fun k hk => HB.out.block k (own_lt H2.out k hk))
      obtain ⟨g, cap, e1, x1⟩ := own_cell r1 hz'
      obtain ⟨g2, cap2, e2, x2⟩ := own_cell r2 hz'
      simp only [Value.slice.injEq] at e1 e2
      obtain ⟨rfl, -, rfl⟩ := e1
      obtain ⟨rfl, -, rfl⟩ := e2
      have hlt2 : (i : Int) < (zs.length : Int) := by omega
      have BD : Aside0 (Below w.heap.size w wr.drew) := ⟨below_drew1 HB.out⟩
      clear hz hz' r1 r2
      go_wp2_with fail
      go_region
      all_goals
        go_wp2_with fail
        go_roundw
        case rel => exact ⟨i + 1, by omega, by go_num, BD⟩
        case measure => simp [intOf]; omega
    · obtain rfl : i = zs.length := by omega
      go_wp2_with fail
      go_ret
      exact ⟨rfl, HB.out⟩
set_option maxHeartbeats 51200000 in
set_option maxRecDepth 100000 in
theorem asks_calls {W w : World} {cb rb : Nat} {n : Int} {T : Nat} {L : List F} (h : Duo W w cb rb n T (fun _ => False) L L) (hn : 1 ≤ n) (hT : T < 1000000) (s : Step) : Calls Try.prog 17 #[ptr cb, ptr rb, .agg #[.int .i64 s.kind, .int .i64 s.k, .string s.d]] w fun e w' => e = .returned (.bool true) ∧ ∃ L', Duo W w' cb rb n (T + 1) (fun _ => False) L' L' := by
  have hup := Try.underlying23
  have hur := Try.underlying43
  have hus := Try.underlying30
  have huc := Try.underlying37
  have HOK := Aside0.mk (h.ok (Nat.le_of_lt hT))
  have HN := Aside0.mk hn
  have HT := Aside0.mk hT
  have P2 := Aside0.mk (blk_new w (.cells #[.int .i64 s.kind, .int .i64 s.k, .string s.d] 30))
  have D2 : Aside0 (Duo W (w.alloc (.cells #[.int .i64 s.kind, .int .i64 s.k, .string s.d] 30)) cb rb n T (fun k => k = w.heap.size) L L) := ⟨(h.more (below_alloc (Below.refl w.heap.size w) (.cells #[.int .i64 s.kind, .int .i64 s.k, .string s.d] 30))).sub fun k hk => .inr (by rw [hk]; exact ⟨Nat.le_refl _, by simp⟩)⟩
  clear h hn hT
  unfold ptr
  go_enter Try.func17, Try.ntmps17
  go_upto_region 1 with fail
  generalize w.alloc (.cells #[.int .i64 s.kind, .int .i64 s.k, .string s.d] 30) = W2 at P2 D2 ⊢
  generalize w.heap.size = b5 at P2 D2 ⊢
  have q0 := (blk_cell P2.out 0).trans (Eq.refl (some (Value.int .i64 s.kind)))
  have q1 := (blk_cell P2.out 1).trans (Eq.refl (some (Value.int .i64 s.k)))
  have q2 := (blk_cell P2.out 2).trans (Eq.refl (some (Value.string s.d)))
  rcases Bool.eq_false_or_eq_true (s.kind == 0) with tk0 | tk0
  · as_aux_lemma =>
      have hP := Aside0.mk (D2.out.load s.k s.d HN.out HT.out)
      have hR : Aside0 (∀ w', Duo W w' cb rb n (T + 1) (fun k => k = b5) (loadS n L s.k s.d).1 L → _) := ⟨fun w' h => h.rload HOK.out s.k s.d⟩
      unfold ptr at hP hR
      generalize loadS n L s.k s.d = r at hP hR
      obtain ⟨r1, r2, r3⟩ := r
      go_wp2_with fail
      refine hP.out.mono ?_
      rintro e w3 ⟨rfl, hD, hK⟩
      have D3 := Aside0.mk hD
      have P3 := Aside0.mk ((hK b5 rfl).trans P2.out)
      clear hD hK hP q0 q1 q2
      have q1 := (blk_cell P3.out 1).trans (Eq.refl (some (Value.int .i64 s.k)))
      have q2 := (blk_cell P3.out 2).trans (Eq.refl (some (Value.string s.d)))
      go_wp2_with fail
      refine (hR.out _ D3.out).mono ?_
      rintro e w4 ⟨rfl, hD, hK⟩
      have D4 := Aside0.mk hD
      clear hD hK hR
      go_wp2_with fail
      go_ret
      exact ⟨by simp, r1, D4.out.sub fun k hk => hk.elim⟩
  rcases Bool.eq_false_or_eq_true (s.kind == 1) with tk1 | tk1
  · as_aux_lemma =>
      have hP := Aside0.mk (D2.out.load s.k s.d HN.out HT.out)
      have hR : Aside0 (∀ w', Duo W w' cb rb n (T + 1) (fun k => k = b5) (loadS n L s.k s.d).1 L → _) := ⟨fun w' h => h.rload HOK.out s.k s.d⟩
      unfold ptr at hP hR
      generalize loadS n L s.k s.d = r at hP hR
      obtain ⟨r1, r2, r3⟩ := r
      go_wp2_with fail
      refine hP.out.mono ?_
      rintro e w3 ⟨rfl, hD, hK⟩
      have D3 := Aside0.mk hD
      have P3 := Aside0.mk ((hK b5 rfl).trans P2.out)
      clear hD hK hP q0 q1 q2
      have q1 := (blk_cell P3.out 1).trans (Eq.refl (some (Value.int .i64 s.k)))
      have q2 := (blk_cell P3.out 2).trans (Eq.refl (some (Value.string s.d)))
      go_wp2_with fail
      refine (hR.out _ D3.out).mono ?_
      rintro e w4 ⟨rfl, hD, hK⟩
      have D4 := Aside0.mk hD
      clear hD hK hR
      go_wp2_with fail
      go_ret
      exact ⟨by simp, r1, D4.out.sub fun k hk => hk.elim⟩
  rcases Bool.eq_false_or_eq_true (s.kind == 2) with tk2 | tk2
  · as_aux_lemma =>
      have hP := Aside0.mk (D2.out.look s.k HT.out)
      have hR : Aside0 (∀ w', Duo W w' cb rb n (T + 1) (fun k => k = b5) (lookS L s.k).1 L → _) := ⟨fun w' h => h.rlook HOK.out s.k⟩
      unfold ptr at hP hR
      generalize lookS L s.k = r at hP hR
      obtain ⟨r1, r2, r3⟩ := r
      go_wp2_with fail
      refine hP.out.mono ?_
      rintro e w3 ⟨rfl, hD, hK⟩
      have D3 := Aside0.mk hD
      have P3 := Aside0.mk ((hK b5 rfl).trans P2.out)
      clear hD hK hP q0 q1 q2
      have q1 := (blk_cell P3.out 1).trans (Eq.refl (some (Value.int .i64 s.k)))
      have q2 := (blk_cell P3.out 2).trans (Eq.refl (some (Value.string s.d)))
      go_wp2_with fail
      refine (hR.out _ D3.out).mono ?_
      rintro e w4 ⟨rfl, hD, hK⟩
      have D4 := Aside0.mk hD
      clear hD hK hR
      go_wp2_with fail
      go_ret
      exact ⟨by simp, r1, D4.out.sub fun k hk => hk.elim⟩
  rcases Bool.eq_false_or_eq_true (s.kind == 3) with tk3 | tk3
  · as_aux_lemma =>
      have G0 : Aside0 (Below W2.heap.size W2 W2.drew) := ⟨below_drew1 (Below.refl _ _)⟩
      have DD := Aside0.mk (D2.out.below G0.out)
      have PD := Aside0.mk (blk_below P2.out G0.out)
      have hP := Aside0.mk (DD.out.store s.k s.d HT.out)
      have hR : Aside0 (∀ w', Duo W w' cb rb n (T + 1) (fun k => k = b5) (storeS L s.k s.d).1 L → _) := ⟨fun w' h => h.rstore HOK.out s.k s.d⟩
      unfold ptr at hP hR
      generalize storeS L s.k s.d = r at hP hR
      obtain ⟨r1, r2⟩ := r
      have HCs : Aside0 (∀ w' : World, w'.heap[b5]? = some (.cells #[.int .i64 s.kind, .int .i64 s.k, .string s.d] 30 (0, 0)) → w'.cell? ⟨b5, 1, none⟩ = some (.int .i64 s.k) ∧ w'.cell? ⟨b5, 2, none⟩ = some (.string s.d)) := ⟨fun w' hb => ⟨(blk_cell hb 1).trans rfl, (blk_cell hb 2).trans rfl⟩⟩
      go_upto_region 12 with fail
      clear q1 q2
      go_region_held3 (fun w' => w'.cell? ⟨b5, 1, none⟩ = some (.int .i64 s.k) ∧ w'.cell? ⟨b5, 2, none⟩ = some (.string s.d)) (first | exact HCs.out _ P4.out | exact HCs.out _ P3.out | exact HCs.out _ PD.out) (first
        | (go_at_call 11; ((with_reducible refine hP.out.mono ?_); rintro e w3 ⟨rfl, hD, hK⟩; have D3 := Aside0.mk hD; have P3 := Aside0.mk ((hK b5 rfl).trans PD.out); clear hD hK))
        | (go_at_call 38; ((with_reducible refine (hR.out _ D3.out).mono ?_); rintro e w4 ⟨rfl, hD, hK⟩; have D4 := Aside0.mk hD; have P4 := Aside0.mk ((hK b5 rfl).trans P3.out); clear hD hK)))
      all_goals
        clear hP hR
        go_wp2_with fail
        go_ret
        exact ⟨by simp, r1, D4.out.sub fun k hk => hk.elim⟩
  rcases Bool.eq_false_or_eq_true (s.kind == 4) with tk4 | tk4
  · as_aux_lemma =>
      have G0 : Aside0 (Below W2.heap.size W2 W2.drew) := ⟨below_drew1 (Below.refl _ _)⟩
      have DD := Aside0.mk (D2.out.below G0.out)
      have PD := Aside0.mk (blk_below P2.out G0.out)
      have hP := Aside0.mk (DD.out.pin s.k HT.out)
      have hR : Aside0 (∀ w', Duo W w' cb rb n (T + 1) (fun k => k = b5) (pinS L s.k).1 L → _) := ⟨fun w' h => h.rpin HOK.out s.k⟩
      unfold ptr at hP hR
      generalize pinS L s.k = r at hP hR
      obtain ⟨r1, r2⟩ := r
      have HCs : Aside0 (∀ w' : World, w'.heap[b5]? = some (.cells #[.int .i64 s.kind, .int .i64 s.k, .string s.d] 30 (0, 0)) → w'.cell? ⟨b5, 1, none⟩ = some (.int .i64 s.k)) := ⟨fun w' hb => (blk_cell hb 1).trans rfl⟩
      go_upto_region 14 with fail
      clear q1 q2
      go_region_held3 (fun w' => w'.cell? ⟨b5, 1, none⟩ = some (.int .i64 s.k)) (first | exact HCs.out _ P4.out | exact HCs.out _ P3.out | exact HCs.out _ PD.out) (first
        | (go_at_call 22; ((with_reducible refine hP.out.mono ?_); rintro e w3 ⟨rfl, hD, hK⟩; have D3 := Aside0.mk hD; have P3 := Aside0.mk ((hK b5 rfl).trans PD.out); clear hD hK))
        | (go_at_call 39; ((with_reducible refine (hR.out _ D3.out).mono ?_); rintro e w4 ⟨rfl, hD, hK⟩; have D4 := Aside0.mk hD; have P4 := Aside0.mk ((hK b5 rfl).trans P3.out); clear hD hK)))
      all_goals
        clear hP hR
        go_wp2_with fail
        go_ret
        exact ⟨by simp, r1, D4.out.sub fun k hk => hk.elim⟩
  rcases Bool.eq_false_or_eq_true (s.kind == 5) with tk5 | tk5
  · as_aux_lemma =>
      have G0 : Aside0 (Below W2.heap.size W2 W2.drew) := ⟨below_drew1 (Below.refl _ _)⟩
      have DD := Aside0.mk (D2.out.below G0.out)
      have PD := Aside0.mk (blk_below P2.out G0.out)
      have hP := Aside0.mk (DD.out.unpin s.k HT.out)
      have hR : Aside0 (∀ w', Duo W w' cb rb n (T + 1) (fun k => k = b5) (unpinS L s.k).1 L → _) := ⟨fun w' h => h.runpin HOK.out s.k⟩
      unfold ptr at hP hR
      generalize unpinS L s.k = r at hP hR
      obtain ⟨r1, r2⟩ := r
      have HCs : Aside0 (∀ w' : World, w'.heap[b5]? = some (.cells #[.int .i64 s.kind, .int .i64 s.k, .string s.d] 30 (0, 0)) → w'.cell? ⟨b5, 1, none⟩ = some (.int .i64 s.k)) := ⟨fun w' hb => (blk_cell hb 1).trans rfl⟩
      go_upto_region 16 with fail
      clear q1 q2
      go_region_held3 (fun w' => w'.cell? ⟨b5, 1, none⟩ = some (.int .i64 s.k)) (first | exact HCs.out _ P4.out | exact HCs.out _ P3.out | exact HCs.out _ PD.out) (first
        | (go_at_call 23; ((with_reducible refine hP.out.mono ?_); rintro e w3 ⟨rfl, hD, hK⟩; have D3 := Aside0.mk hD; have P3 := Aside0.mk ((hK b5 rfl).trans PD.out); clear hD hK))
        | (go_at_call 40; ((with_reducible refine (hR.out _ D3.out).mono ?_); rintro e w4 ⟨rfl, hD, hK⟩; have D4 := Aside0.mk hD; have P4 := Aside0.mk ((hK b5 rfl).trans P3.out); clear hD hK)))
      all_goals
        clear hP hR
        go_wp2_with fail
        go_ret
        exact ⟨by simp, r1, D4.out.sub fun k hk => hk.elim⟩
  · as_aux_lemma =>
      have hP := Aside0.mk D2.out.take
      have hR : Aside0 (∀ w' Y, Duo W w' cb rb n (T + 1) Y (takeS L) L → _) := ⟨fun w' Y h => h.rtake (Y := Y) HOK.out⟩
      have HS : Aside0 ((tookS L).length ≤ 1024) := ⟨Nat.le_trans (show (tookS L).length ≤ 48 by unfold tookS; exact List.length_take_le ..) (by decide)⟩
      unfold ptr at hP hR
      generalize tookS L = S at hP hR HS
      generalize takeS L = L' at hP hR
      go_wp2_with fail
      refine hP.out.mono ?_
      rintro e w3 ⟨v, rfl, hr, hD, hK⟩
      obtain ⟨A3, c3, rfl⟩ := own_slice hr
      have R3 := Aside0.mk hr
      have D3 := Aside0.mk hD
      clear hr hD hK hP q0 q1 q2
      go_wp2_with fail
      refine (hR.out _ _ D3.out).mono ?_
      rintro e w4 ⟨v, rfl, hr, hD, hK⟩
      obtain ⟨A4, c4, rfl⟩ := own_slice hr
      have R4 := Aside0.mk (And.intro (own_keep R3.out fun k hk hl => hK k (.inr ⟨hk, hl⟩)) hr)
      have D4 := Aside0.mk hD
      clear hr hD hK hR R3
      go_wp2_with fail
      refine (changes_calls _ R4.out.1 R4.out.2 HS.out).mono ?_
      rintro e w5 ⟨rfl, hb⟩
      have D5 := Aside0.mk (D4.out.below hb)
      clear hb
      go_wp2_with fail
      go_ret
      exact ⟨rfl, L', D5.out.sub fun k hk => hk.elim⟩
end Go.Proofs.Ytikefafpkclgeaa.Cache
