/- view.Best: the place of the best offer. -/
import Derived.Test.YtifhgfjohpbliaaCommit
import Derived.Test.YtifhgfjohpbliaaPbx4
import Derived.Deep.RegionHeld3
set_option linter.unusedVariables false
set_option linter.unusedSimpArgs false
namespace Go.Proofs.Ytifhgfjohpbliaa.GivenV
open Go.RowKit Go.Proofs.YtifhgfjohpbliaaW.PrintWords Go.Proofs.YtifhgfjohpbliaaW.PrintLast Go.Proofs.YtifhgfjohpbliaaW.PrintMore Go.Proofs.Ytifhgfjohpbliaa.Vals Go.Proofs.Ytifhgfjohpbliaa.Pt

abbrev Off := S38
def better (a b : Off) : Bool := decide (b.f1 < a.f1) || (decide (a.f1 = b.f1) && decide (b.f2 < a.f2))
theorem cmp_eq (a b : Int) : Pb.cmp_Compare_int.f a b = some (if a < b then -1 else if a > b then 1 else 0) := by
  unfold Pb.cmp_Compare_int.f Pb.cmp_isNaN_int.f
  simp
  split
  · rfl
  · split <;> rfl
theorem wrap_small (i : Int) (h0 : 0 ≤ i) (h1 : i < 9223372036854775808) : wrap64 i = i := by
  unfold wrap64
  first
  | (rw [IntKind.wrap_i64]; omega)
  | (simp [IntKind.wrap_i64]; omega)
  | omega
theorem or_eq (a b : Int) : Pb.cmp_Or_int.f 4 [a, b] = some (if a = 0 then b else a) := by
  unfold Pb.cmp_Or_int.f
  simp only [Pb.cmp_Or_int.l0]
  have w1 : wrap64 1 = 1 := wrap_small _ (by omega) (by omega)
  have w2 : wrap64 (1 + 1) = 2 := wrap_small _ (by omega) (by omega)
  have w3 : wrap64 2 = 2 := wrap_small _ (by omega) (by omega)
  by_cases h : a = 0
  · by_cases h2 : b = 0
    · simp [rd, h, h2, w1, w2, w3]
    · simp [rd, h, h2, w1, w2, w3]
  · simp [rd, h, w1, w2, w3]
def cmpO (a b : Off) : Int := if (if a.f1 < b.f1 then (-1 : Int) else if a.f1 > b.f1 then 1 else 0) = 0 then (if a.f2 < b.f2 then -1 else if a.f2 > b.f2 then 1 else 0) else (if a.f1 < b.f1 then -1 else if a.f1 > b.f1 then 1 else 0)
theorem cmpO_pos (a b : Off) : decide (0 < cmpO a b) = better a b := by
  unfold cmpO better
  rw [Bool.eq_iff_iff]
  simp only [decide_eq_true_eq, Bool.or_eq_true, Bool.and_eq_true]
  split <;> split <;> (try split) <;> (try split) <;> omega
theorem best1_calls (a b : Off) (w : World) :
    Calls Try.prog 30 #[.agg #[.int .i64 a.f0, .int .i64 a.f1, .int .i64 a.f2], .agg #[.int .i64 b.f0, .int .i64 b.f1, .int .i64 b.f2]] w fun e w' => e = .returned (.int .i64 (cmpO a b)) ∧ Below w.heap.size w w' := by
  refine Pb.view_Best_1.calls 4 a.f0 a.f1 a.f2 b.f0 b.f1 b.f2 _ w ?_
  unfold Pb.view_Best_1.f
  rw [cmp_eq, cmp_eq]
  simp only [Option.bind_some]
  rw [or_eq]
  rfl
/-- The best of a list of offers, one being at hand. -/
def maxO (m : Off) : List Off → Off
  | [] => m
  | x :: l => maxO (if better x m = true then x else m) l
def offv (x : Off) : Value := .agg #[.int .i64 x.f0, .int .i64 x.f1, .int .i64 x.f2]
def offc (x : Off) (t : Nat) : Obj := .cells #[.int .i64 x.f0, .int .i64 x.f1, .int .i64 x.f2] t (0, 0)
theorem drop_off (l : List Off) (i : Nat) (h : i < l.length) : l.drop i = rd_T38 l i :: l.drop (i + 1) := by
  rw [List.drop_eq_getElem_cons h]
  unfold rd_T38
  simp [List.getD_eq_getElem?_getD, h]
abbrev S6 (wr : World) (p q : Addr) (x m : Off) (w' : World) : Prop :=
  w'.cell? p = some (.int .i64 x.f0) ∧ w'.cell? ⟨p.block, p.off + 1, none⟩ = some (.int .i64 x.f1) ∧ w'.cell? ⟨p.block, p.off + 2, none⟩ = some (.int .i64 x.f2) ∧
  w'.cell? ⟨q.block, 0, none⟩ = some (.int .i64 m.f0) ∧ w'.cell? ⟨q.block, 1, none⟩ = some (.int .i64 m.f1) ∧ w'.cell? ⟨q.block, 2, none⟩ = some (.int .i64 m.f2) ∧ Below wr.heap.size wr w'
theorem keep6 {wr w1 w2 : World} {p q : Addr} {x m : Off} (h : S6 wr p q x m w1) (hb : Below w1.heap.size w1 w2) : S6 wr p q x m w2 := by
  obtain ⟨h1, h2, h3, h4, h5, h6, h7⟩ := h
  have g : ∀ {a : Addr} {v : Value}, w1.cell? a = some v → w2.cell? a = some v := fun {a v} ha => (hb.cell (p := a) (World.block_lt_of_cell? w1 _ ha)).trans ha
  exact ⟨g h1, g h2, g h3, g h4, g h5, g h6, h7.trans (hb.mono h7.size)⟩
theorem keep6d {wr w1 : World} {p q : Addr} {x m : Off} (h : S6 wr p q x m w1) : S6 wr p q x m w1.drew := keep6 h (below_drew1 (Below.refl _ _))
set_option maxHeartbeats 2000000 in
set_option maxRecDepth 100000 in
theorem max_calls (A : Option Addr) (c : Nat) (l : List Off) (w : World) (hr : Kd.C k38 w A l.length l) (h0 : 0 < l.length) (hl : l.length < 9223372036854775807) :
    Calls Try.prog 29 #[.slice A l.length c, .func (.func 30) #[] #[]] w fun e w' => e = .returned (offv (maxO (rd_T38 l 0) (l.drop 1))) ∧ Below w.heap.size w w' := by
  have hu := Try.underlying38
  obtain ⟨ad, rfl, c0, c1, c2⟩ := at_T38 hr 0 (by omega) (by omega)
  have HR := Aside0.mk hr
  have b1 : decide ((l.length : Int) < 1) = false := decide_eq_false (by omega)
  simp only [Int.toNat_zero, Nat.zero_mul, show ad.add 0 = ad from by simp [Addr.add]] at c0 c1 c2
  have HB := Aside0.mk (below_alloc (Below.refl w.heap.size w) (.cells #[.int .i64 0, .int .i64 0, .int .i64 0] 38))
  have g : ∀ {a : Addr} {v : Value}, w.cell? a = some v → (w.alloc (.cells #[.int .i64 0, .int .i64 0, .int .i64 0] 38)).cell? a = some v := fun {a v} ha => (HB.out.cell (p := a) (World.block_lt_of_cell? w _ ha)).trans ha
  have d0 := g c0
  have d1 := g c1
  have d2 := g c2
  clear g c0 c1 c2
  clear hr
  go_enter Try.func29, Try.ntmps29
  go_wp2_with fail
  generalize hm0 : rd_T38 l 0 = m0 at d0 d1 d2 ⊢
  have HM := Aside0.mk hm0
  clear hm0
  clear d0 d1 d2 HB
  go_loopw [6] (fun i wr => ∃ (k : Nat) (m : Off), 1 ≤ k ∧ k ≤ l.length ∧ i = .int .i64 k ∧ Aside0 (maxO m0 (l.drop 1) = maxO m (l.drop k)) ∧ Aside0 (Below w.heap.size w wr) ∧ Aside0 (wr.heap[w.heap.size + 1]? = some (offc m 38)) ∧ Aside0 (wr.heap[w.heap.size]? = some (.cells #[.int .i64 0, .int .i64 0, .int .i64 0] 38 (0, 0)))) (fun i _ => l.length - (intOf i).toNat)
  case atStart =>
    have z : (w.alloc (.cells #[.int .i64 0, .int .i64 0, .int .i64 0] 38)).heap.size = w.heap.size + 1 := by simp
    have q0 := blk_new (w.alloc (.cells #[.int .i64 0, .int .i64 0, .int .i64 0] 38)) (.cells #[.int .i64 m0.f0, .int .i64 m0.f1, .int .i64 m0.f2] 38)
    rw [z] at q0
    exact ⟨1, m0, by omega, by omega, rfl, ⟨rfl⟩, ⟨below_alloc (below_alloc (Below.refl _ _) _) _⟩, ⟨q0⟩, ⟨blk_alloc (blk_new w _) _⟩⟩
  case round =>
    obtain ⟨k, m, hk1, hk, rfl, E, HB, P, P4⟩ := hrel
    by_cases hlt : k < l.length
    · obtain ⟨ad', he, c0, c1, c2⟩ := at_T38 (Kd.C_below HR.out HB.out) (k : Int) (by omega) (by omega)
      obtain rfl := Option.some.inj he
      have hd := Aside0.mk (drop_off l k hlt)
      generalize hx : rd_T38 l (k : Int) = x at c0 c1 c2
      have m0' := (blk_cell P.out 0).trans rfl
      have m1' := (blk_cell P.out 1).trans rfl
      have m2' := (blk_cell P.out 2).trans rfl
      have hb1 : decide ((k : Int) < (l.length : Int)) = true := decide_eq_true (by omega)
      have hS : S6 wr (ad.add (k * 3)) ⟨w.heap.size + 1, 0, none⟩ x m wr := ⟨c0, c1, c2, m0', m1', m2', Below.refl _ _⟩
      have HS := Aside0.mk hS
      have HK := Aside0.mk (fun w1 w2 => @keep6 wr w1 w2 (ad.add (k * 3)) ⟨w.heap.size + 1, 0, none⟩ x m)
      have HX := Aside0.mk hx
      clear hx c0 c1 c2 m0' m1' m2' hS
      go_wp2_with fail
      go_region_held3 (fun w' => w'.cell? (ad.add (k * 3)) = some (.int .i64 x.f0) ∧ w'.cell? ⟨(ad.add (k * 3)).block, (ad.add (k * 3)).off + 1, none⟩ = some (.int .i64 x.f1) ∧ w'.cell? ⟨(ad.add (k * 3)).block, (ad.add (k * 3)).off + 2, none⟩ = some (.int .i64 x.f2) ∧ w'.cell? ⟨w.heap.size + 1, 0, none⟩ = some (.int .i64 m.f0) ∧ w'.cell? ⟨w.heap.size + 1, 1, none⟩ = some (.int .i64 m.f1) ∧ w'.cell? ⟨w.heap.size + 1, 2, none⟩ = some (.int .i64 m.f2) ∧ Below wr.heap.size wr w') (first | exact keep6d HS.out | exact HK.out _ _ (by assumption) hbb) ((go_at_call 30; refine (best1_calls x m _).mono ?_; rintro e w' ⟨rfl, hbb⟩))
      obtain ⟨e0, e1, e2, e3, e4, e5, hBw⟩ : S6 wr (ad.add (k * 3)) ⟨w.heap.size + 1, 0, none⟩ x m w' := by assumption
      rw [cmpO_pos]
      have P' := Aside0.mk (blk_below P.out hBw)
      have P4' := Aside0.mk (blk_below P4.out hBw)
      have HB' := Aside0.mk (HB.out.trans (hBw.mono HB.out.size))
      have f0 := blk_frozen P'.out
      clear e3 e4 e5 hBw hbb
      have HD : Aside0 (maxO m0 (l.drop 1) = maxO (if better x m = true then x else m) (l.drop (k + 1))) := ⟨by rw [E.out, hd.out, HX.out]; rfl⟩
      by_cases hbt : better x m = true
      · have HD2 := HD.out
        rw [if_pos hbt] at HD2
        have HD3 := Aside0.mk HD2
        rw [hbt]
        clear HD2 HD hbt
        go_wp2_with fail
        have q1 := blk_put P'.out 0 (.int .i64 x.f0) rfl
        have q2 := blk_put q1 1 (.int .i64 x.f1) rfl
        have q3 := blk_put q2 2 (.int .i64 x.f2) rfl
        have r1 := (((Below.refl (w.heap.size + 1) w').setCell (p := ⟨w.heap.size + 1, 0, none⟩) (Nat.le_refl _) (.int .i64 x.f0)).setCell (p := ⟨w.heap.size + 1, 1, none⟩) (Nat.le_refl _) (.int .i64 x.f1)).setCell (p := ⟨w.heap.size + 1, 2, none⟩) (Nat.le_refl _) (.int .i64 x.f2)
        have r2 := (r1.block w.heap.size (by omega)).trans P4'.out
        have r3 := HB'.out.trans (r1.mono (by omega))
        have q4 := Aside0.mk q3
        have r4 := Aside0.mk r2
        have r5 := Aside0.mk r3
        clear q1 q2 q3 r1 r2 r3
        go_roundw
        case rel => exact ⟨k + 1, x, by omega, by omega, by go_num, HD3, r5, q4, r4⟩
        case measure => simp [intOf]; omega
      · have HD2 := HD.out
        rw [if_neg hbt] at HD2
        have HD3 := Aside0.mk HD2
        have hbt' : better x m = false := by simpa using hbt
        rw [hbt']
        clear HD2 HD hbt hbt'
        go_wp2_with fail
        go_roundw
        case rel => exact ⟨k + 1, m, by omega, by omega, by go_num, HD3, HB', P', P4'⟩
        case measure => simp [intOf]; omega
    · obtain rfl : k = l.length := by omega
      have hb1 : decide ((l.length : Int) < (l.length : Int)) = false := decide_eq_false (by omega)
      have m0' := (blk_cell P.out 0).trans rfl
      have m1' := (blk_cell P.out 1).trans rfl
      have m2' := (blk_cell P.out 2).trans rfl
      have f0 := blk_frozen P4.out
      have E2 := E.out
      rw [List.drop_of_length_le (Nat.le_refl _)] at E2
      have E3 := Aside0.mk E2
      have z0 := (blk_cell P4.out 0).trans rfl
      have z1 := (blk_cell P4.out 1).trans rfl
      have z2 := (blk_cell P4.out 2).trans rfl
      clear E2
      go_wp2_with fail
      refine bodyPost_ret (v := offv m) (by simp [results, Try.results29, go_sem, offv, m0', m1', m2', z0, z1, z2]) rfl ⟨?_, ?_⟩
      · rw [HM.out, E3.out]; rfl
      · exact ((HB.out.setCell (Nat.le_refl _) _).setCell (Nat.le_refl _) _).setCell (Nat.le_refl _) _

/-- Where the first offer is that has as much as m. -/
def likeB (m x : Off) : Bool := (x.f1 == m.f1) && (x.f2 == m.f2)
def findO (m : Off) : List Off → Int → Int
  | [], _ => -1
  | x :: l, i => if likeB m x = true then i else findO m l (i + 1)
theorem findO_cons (m x : Off) (l : List Off) (i : Int) : findO m (x :: l) i = if likeB m x = true then i else findO m l (i + 1) := rfl
set_option maxHeartbeats 800000 in
set_option maxRecDepth 100000 in
theorem like_calls (b : Nat) (m x : Off) (w : World) (P : w.heap[b]? = some (offc m 38)) :
    Calls Try.prog 34 #[offv x, .pointer (some ⟨b, 0, none⟩)] w fun e w' => e = .returned (.bool (likeB m x)) ∧ Below w.heap.size w w' := by
  have hu := Try.underlying38
  have hP := blk_alloc P (.cells #[.int .i64 x.f0, .int .i64 x.f1, .int .i64 x.f2] 38)
  have m1 := (blk_cell hP 1).trans rfl
  have m2 := (blk_cell hP 2).trans rfl
  have lt := blk_lt P
  clear hP P
  unfold likeB offv
  by_cases h : x.f1 = m.f1
  · have b2 : (x.f1 == m.f1) = true := by simpa using h
    rw [b2, Bool.true_and]
    clear h
    go_enter Try.func34, Try.ntmps34
    go_wp2_with fail
    go_ret
    exact ⟨rfl, below_alloc (Below.refl _ _) _⟩
  · have b2 : (x.f1 == m.f1) = false := by simpa using h
    rw [b2, Bool.false_and]
    clear h
    go_enter Try.func34, Try.ntmps34
    go_wp2_with fail
    go_ret
    exact ⟨rfl, below_alloc (Below.refl _ _) _⟩
set_option maxHeartbeats 800000 in
set_option maxRecDepth 100000 in
theorem find_calls (A : Option Addr) (c b : Nat) (m : Off) (l : List Off) (w : World) (hr : Kd.C k38 w A l.length l) (hl : l.length < 9223372036854775807) (hp : w.heap[b]? = some (offc m 38)) :
    Calls Try.prog 33 #[.slice A l.length c, .func (.func 34) #[] #[.pointer (some ⟨b, 0, none⟩)]] w fun e w' => e = .returned (.int .i64 (findO m l 0)) ∧ Below w.heap.size w w' := by
  have hu := Try.underlying38
  have HR := Aside0.mk hr
  have HP := Aside0.mk hp
  clear hr hp
  go_enter Try.func33, Try.ntmps33
  go_wp2_with fail
  go_loopw [5, 8] (fun _ i wr => ∃ k : Nat, k ≤ l.length ∧ i = .int .i64 k ∧ Aside0 (findO m l 0 = findO m (l.drop k) k) ∧ Aside0 (Below w.heap.size w wr)) (fun _ i _ => l.length - (intOf i).toNat)
  case atStart => exact ⟨0, by omega, rfl, ⟨rfl⟩, ⟨Below.refl _ _⟩⟩
  case round =>
    obtain ⟨k, hk, rfl, E, HB⟩ := hrel
    by_cases hlt : k < l.length
    · obtain ⟨ad, he, c0, c1, c2⟩ := at_T38 (Kd.C_below HR.out HB.out) (k : Int) (by omega) (by omega)
      subst he
      have E2 := E.out
      rw [drop_off l k hlt, findO_cons] at E2
      generalize rd_T38 l (k : Int) = x at c0 c1 c2 E2
      have c0' : wr.cell? (ad.add (k * 3)) = some (.int .i64 x.f0) := c0
      have c1' : wr.cell? ⟨(ad.add (k * 3)).block, (ad.add (k * 3)).off + 1, none⟩ = some (.int .i64 x.f1) := c1
      have c2' : wr.cell? ⟨(ad.add (k * 3)).block, (ad.add (k * 3)).off + 2, none⟩ = some (.int .i64 x.f2) := c2
      clear c0 c1 c2
      have hb1 : decide ((k : Int) < (l.length : Int)) = true := decide_eq_true (by omega)
      have hlk := Aside0.mk (like_calls b m x wr (blk_below HP.out HB.out))
      unfold offv at hlk
      by_cases hin : likeB m x = true
      · rw [if_pos hin] at E2
        have E3 := Aside0.mk E2
        rw [hin] at hlk
        clear E2 hin
        go_wp2_with fail
        refine hlk.out.mono ?_
        rintro e w1 ⟨rfl, hb⟩
        have HB1 := Aside0.mk (HB.out.trans (hb.mono HB.out.size))
        clear hb
        go_wp2_with fail
        go_ret
        exact ⟨by show Ending.returned (.int .i64 (k : Int)) = _; rw [E3.out], HB1.out⟩
      · rw [if_neg hin] at E2
        have E3 : Aside0 (findO m l 0 = findO m (l.drop (k + 1)) ((k + 1 : Nat) : Int)) := ⟨by simpa using E2⟩
        have hin' : likeB m x = false := by simpa using hin
        rw [hin'] at hlk
        clear E2 hin hin'
        go_wp2_with fail
        refine hlk.out.mono ?_
        rintro e w1 ⟨rfl, hb⟩
        have HB1 := Aside0.mk (HB.out.trans (hb.mono HB.out.size))
        clear hb
        go_wp2_with fail
        go_roundw
        case rel => exact ⟨k + 1, by omega, by go_num, E3, HB1⟩
        case measure => simp [intOf]; omega
    · obtain rfl : k = l.length := by omega
      have E2 := E.out
      rw [List.drop_of_length_le (Nat.le_refl _)] at E2
      have E3 := Aside0.mk E2
      clear E2
      go_wp2_with fail
      go_ret
      exact ⟨by show Ending.returned (.int .i64 (-1)) = _; rw [E3.out]; rfl, HB.out⟩
def view_Best.f (l : List Off) : Option (Int × Int) := if l.length < 9223372036854775807 then (if l = [] then some (0, 6) else some (findO (maxO (rd_T38 l 0) (l.drop 1)) l 0, 0)) else none
set_option maxHeartbeats 800000 in
set_option maxRecDepth 100000 in
theorem best_none (A : Option Addr) (c : Nat) (w : World) :
    Calls Try.prog 17 #[.slice A 0 c] w fun e w' => e = .returned (.tuple #[.int .i64 0, .int .i64 6]) ∧ Below w.heap.size w w' := by
  go_enter Try.func17, Try.ntmps17
  go_wp2_with fail
  go_ret2
  exact ⟨rfl, Below.refl _ _⟩
set_option maxHeartbeats 800000 in
set_option maxRecDepth 100000 in
theorem best_some (A : Option Addr) (c : Nat) (l : List Off) (w : World) (hr : Kd.C k38 w A l.length l) (h0 : 0 < l.length) (hl : l.length < 9223372036854775807) :
    Calls Try.prog 17 #[.slice A l.length c] w fun e w' => e = .returned (.tuple #[.int .i64 (findO (maxO (rd_T38 l 0) (l.drop 1)) l 0), .int .i64 0]) ∧ Below w.heap.size w w' := by
  have hu := Try.underlying38
  have HR := Aside0.mk hr
  have b0 : ((l.length : Int) == 0) = false := by simpa using (by omega : ¬ (l.length : Int) = 0)
  have CM := Aside0.mk (max_calls A c l w hr h0 hl)
  clear hr
  generalize maxO (rd_T38 l 0) (l.drop 1) = m at CM ⊢
  have H0 := Aside0.mk h0
  clear h0
  go_enter Try.func17, Try.ntmps17
  go_wp2_with fail
  refine CM.out.mono ?_
  rintro e w1 ⟨rfl, hb⟩
  have HB1 := Aside0.mk hb
  clear hb
  unfold offv
  go_wp2_with fail
  have hP := blk_new w1 (.cells #[.int .i64 m.f0, .int .i64 m.f1, .int .i64 m.f2] 38)
  refine (find_calls A c w1.heap.size m l _ (Kd.C_below (Kd.C_below HR.out HB1.out) (below_alloc (Below.refl _ _) _)) hl hP).mono ?_
  rintro e w2 ⟨rfl, hb⟩
  have HB2 := Aside0.mk ((below_alloc HB1.out (.cells #[.int .i64 m.f0, .int .i64 m.f1, .int .i64 m.f2] 38)).trans (hb.mono (by have := HB1.out.size; simp; omega)))
  clear hb hP
  go_wp2_with fail
  go_ret2
  exact ⟨rfl, HB2.out⟩
theorem view_Best.calls (A0 : Option Addr) (c0 : Nat) (l0 : List Off) (r1 : Int) (r2 : Int) (w : World) (hr0 : Kd.C k38 w A0 l0.length l0) (hc0 : l0.length ≤ c0) (h : view_Best.f l0 = some (r1, r2)) :
    Calls Try.prog 17 #[.slice A0 l0.length c0] w fun e w' => e = .returned (.tuple #[.int .i64 r1, .int .i64 r2]) ∧ Below w.heap.size w w' := by
  unfold view_Best.f at h
  by_cases hl : l0.length < 9223372036854775807
  · rw [if_pos hl] at h
    by_cases hn : l0 = []
    · rw [if_pos hn] at h
      simp only [Option.some.injEq, Prod.mk.injEq] at h
      obtain ⟨rfl, rfl⟩ := h
      subst hn
      exact best_none A0 c0 w
    · rw [if_neg hn] at h
      simp only [Option.some.injEq, Prod.mk.injEq] at h
      obtain ⟨rfl, rfl⟩ := h
      exact best_some A0 c0 l0 w hr0 (List.length_pos_iff.2 hn) hl
  · rw [if_neg hl] at h
    cases h
end Go.Proofs.Ytifhgfjohpbliaa.GivenV
