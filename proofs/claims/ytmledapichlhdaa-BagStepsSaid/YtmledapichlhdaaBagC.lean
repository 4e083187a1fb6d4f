/- Messages compared, and sorted. -/
import Derived.Test.YtmledapichlhdaaBagM
import Derived.Test.YtmledapichlhdaaLayB
import Derived.Test.YtmledapichlhdaaLayS
import Derived.Test.YtmledapichlhdaaLayP
import Derived.Shelf.SlSortCmp.NoneTotal
import Derived.Shelf.Small.Strs
import Derived.Shelf.Pu.Clone
set_option linter.unusedVariables false
set_option linter.unusedSimpArgs false
namespace Go.Proofs.Ytmledapichlhdaa.Bag
open Go.RowKit Go.Proofs.YtmledapichlhdaaW.PrintWords Go.Proofs.YtmledapichlhdaaW.PrintLast Go.Proofs.YtmledapichlhdaaW.PrintMore Go.Proofs.Ytmledapichlhdaa.Maps Go.Proofs.Ytmledapichlhdaa.BagS
open Go.Sort (grow)
set_option maxHeartbeats 800000 in
theorem nan_calls (a : Int) (w : World) : Calls Try.prog 39 #[.int .i64 a] w fun e w' => e = .returned (.bool false) ∧ w' = w := by
  have q : (a != a) = false := by simp
  go_enter Try.func39, Try.ntmps39
  go_wp2
  go_ret
  exact ⟨by simp, rfl⟩
set_option maxHeartbeats 1600000 in
set_option maxRecDepth 100000 in
theorem compare_calls (a b : Int) (w : World) : Calls Try.prog 32 #[.int .i64 a, .int .i64 b] w fun e w' => e = .returned (.int .i64 (cmpI a b)) ∧ w' = w := by
  have hb : (decide (a < b) = true ∧ cmpI a b = -1) ∨ (decide (a < b) = false ∧ decide (b < a) = true ∧ cmpI a b = 1) ∨ (decide (a < b) = false ∧ decide (b < a) = false ∧ cmpI a b = 0) := by
    rcases cmpI_cases a b with ⟨h, e⟩ | ⟨h, e⟩ | ⟨h, e⟩
    · exact .inl ⟨decide_eq_true h, e⟩
    · exact .inr (.inr ⟨decide_eq_false (by omega), decide_eq_false (by omega), e⟩)
    · exact .inr (.inl ⟨decide_eq_false (by omega), decide_eq_true h, e⟩)
  have N1 := Aside0.mk (fun W => nan_calls a W)
  have N2 := Aside0.mk (fun W => nan_calls b W)
  rcases hb with ⟨h1, he⟩ | ⟨h1, h2, he⟩ | ⟨h1, h2, he⟩
  all_goals
    rw [he]
    clear he
    go_enter Try.func32, Try.ntmps32
    go_wp2_with fail
    refine (N1.out _).mono ?_
    rintro e w1 ⟨rfl, rfl⟩
    go_wp2_with fail
    refine (N2.out _).mono ?_
    rintro e w1 ⟨rfl, rfl⟩
    go_wp2_with fail
    go_ret
    exact ⟨rfl, rfl⟩
def orI (a b c : Int) : Int := if a ≠ 0 then a else if b ≠ 0 then b else c
set_option maxHeartbeats 3200000 in
set_option maxRecDepth 100000 in
theorem or_calls (a b c : Int) (g : Nat) (w : World) (h0 : w.cell? ⟨g, 0, none⟩ = some (.int .i64 a)) (h1 : w.cell? ⟨g, 1, none⟩ = some (.int .i64 b)) (h2 : w.cell? ⟨g, 2, none⟩ = some (.int .i64 c)) :
    Calls Try.prog 31 #[.slice (some ⟨g, 0, none⟩) 3 3] w fun e w' => e = .returned (.int .i64 (orI a b c)) ∧ w' = w := by
  have H := Aside0.mk (And.intro h0 (And.intro h1 h2))
  clear h0 h1 h2
  go_enter Try.func31, Try.ntmps31
  go_wp2_with fail
  go_loopw [8] (fun v8 wr => ∃ i : Nat, i ≤ 3 ∧ v8 = .int .i64 (i : Int) ∧ Aside0 ((0 < i → a = 0) ∧ (1 < i → b = 0) ∧ (2 < i → c = 0)) ∧ wr = w) (fun x _ => 3 - (intOf x).toNat)
  case atStart => exact ⟨0, by omega, rfl, ⟨by omega, by omega, by omega⟩, rfl⟩
  case round =>
    obtain ⟨i, hi, rfl, HZ, rfl⟩ := hrel
    by_cases hlt : i < 3
    · obtain ⟨x, hx, hxe⟩ : ∃ x, wr.cell? ⟨g, i, none⟩ = some (.int .i64 x) ∧ ((i = 0 ∧ x = a) ∨ (i = 1 ∧ x = b) ∨ (i = 2 ∧ x = c)) := by
        rcases (show i = 0 ∨ i = 1 ∨ i = 2 by omega) with rfl | rfl | rfl
        · exact ⟨a, H.out.1, .inl ⟨rfl, rfl⟩⟩
        · exact ⟨b, H.out.2.1, .inr (.inl ⟨rfl, rfl⟩)⟩
        · exact ⟨c, H.out.2.2, .inr (.inr ⟨rfl, rfl⟩)⟩
      have HX := Aside0.mk hxe
      have hi3 : (i : Int) < 3 := by omega
      clear hxe
      by_cases hz : x = 0
      · have b1 : (x != 0) = false := by simp [hz]
        have HZ2 : Aside0 ((0 < i + 1 → a = 0) ∧ (1 < i + 1 → b = 0) ∧ (2 < i + 1 → c = 0)) := ⟨by
          obtain ⟨z1, z2, z3⟩ := HZ.out
          rcases HX.out with ⟨h1, h2⟩ | ⟨h1, h2⟩ | ⟨h1, h2⟩
          · exact ⟨fun _ => by omega, fun h => by omega, fun h => by omega⟩
          · exact ⟨fun _ => z1 (by omega), fun _ => by omega, fun h => by omega⟩
          · exact ⟨fun _ => z1 (by omega), fun _ => z2 (by omega), fun _ => by omega⟩⟩
        clear hz
        go_wp2_with fail
        go_roundw
        case rel => exact ⟨i + 1, by omega, by go_num, HZ2, by first | rfl | trivial⟩
        case measure => simp [intOf]; omega
      · have b1 : (x != 0) = true := by simp [hz]
        have he : Aside0 (orI a b c = x) := ⟨by
          obtain ⟨z1, z2, z3⟩ := HZ.out
          unfold orI
          rcases HX.out with ⟨h1, h2⟩ | ⟨h1, h2⟩ | ⟨h1, h2⟩
          · rw [← h2, if_pos hz]
          · rw [z1 (by omega), ← h2, if_neg (by simp), if_pos hz]
          · rw [z1 (by omega), z2 (by omega), if_neg (by simp), if_neg (by simp), h2]⟩
        clear hz
        go_wp2_with fail
        go_ret
        exact ⟨(congrArg (fun z => Ending.returned (Value.int .i64 z)) he.out).symm, rfl⟩
    · obtain rfl : i = 3 := by omega
      have he : Aside0 (orI a b c = 0) := ⟨by
        obtain ⟨z1, z2, z3⟩ := HZ.out
        unfold orI
        rw [z1 (by omega), z2 (by omega), z3 (by omega)]
        simp⟩
      go_wp2_with fail
      go_ret
      exact ⟨(congrArg (fun z => Ending.returned (Value.int .i64 z)) he.out).symm, rfl⟩
theorem orI_cmp (x y : Msg) : orI (cmpI x.2.1 y.2.1) (cmpI x.1 y.1) (cmpB x.2.2 y.2.2) = cmpM x y := rfl
theorem scmp_calls (a b : ByteArray) (w : World) : Calls Try.prog 33 #[.string a, .string b] w fun e w' => e = .returned (.int .i64 (cmpB a b)) ∧ w' = w :=
  Any.strings_Compare LayB.bCompare a b w
theorem clone_calls (s : ByteArray) (w : World) (h : s.size ≤ 281474976710656) : Calls Try.prog 26 #[.string s] w fun e w' => e = .returned (.string s) ∧ Below w.heap.size w w' := by
  have HC : Aside0 (Calls Try.prog 35 #[.string s] w fun e w' => e = .returned (.string s) ∧ Below w.heap.size w w') := ⟨AnyPu.stringslite_Clone LayP.bClone s w h⟩
  go_enter Try.func26, Try.ntmps26
  go_wp2_with fail
  refine HC.out.mono ?_
  rintro e w1 ⟨rfl, hb⟩
  have HB := Aside0.mk hb
  clear hb
  go_wp2_with fail
  go_ret
  exact ⟨rfl, HB.out⟩
def enc (m : Msg) : List Value := [.int .i64 m.1, .int .i64 m.2.1, .string m.2.2]
set_option maxHeartbeats 6400000 in
set_option maxRecDepth 100000 in
theorem closure_calls (x y : Msg) (W : World) : Calls Try.prog 30 #[.agg #[.int .i64 x.1, .int .i64 x.2.1, .string x.2.2], .agg #[.int .i64 y.1, .int .i64 y.2.1, .string y.2.2]] W fun e w' => e = .returned (.int .i64 (cmpM x y)) ∧ ∃ q os', w' = grow (W.drewN q) os' := by
  have hum := Try.underlying30
  have HC := Aside0.mk (fun a b w => compare_calls a b w)
  have HS := Aside0.mk (fun a b w => scmp_calls a b w)
  obtain ⟨W2, hW2⟩ : ∃ W2, W2 = (W.alloc (.cells #[.int .i64 x.1, .int .i64 x.2.1, .string x.2.2] 30)).alloc (.cells #[.int .i64 y.1, .int .i64 y.2.1, .string y.2.2] 30) := ⟨_, rfl⟩
  have P1 : W2.heap[W.heap.size]? = some (.cells #[.int .i64 x.1, .int .i64 x.2.1, .string x.2.2] 30 (0, 0)) := by rw [hW2]; exact blk_alloc (blk_new W _) _
  have P2 : W2.heap[W.heap.size + 1]? = some (.cells #[.int .i64 y.1, .int .i64 y.2.1, .string y.2.2] 30 (0, 0)) := by
    rw [hW2]
    have := blk_new (W.alloc (.cells #[.int .i64 x.1, .int .i64 x.2.1, .string x.2.2] 30)) (.cells #[.int .i64 y.1, .int .i64 y.2.1, .string y.2.2] 30)
    simpa using this
  have HG : Aside0 (∀ o, ∃ os', (W2.alloc o).drew = grow (W.drewN 1) os') := ⟨fun o => ⟨_, by rw [hW2, Go.Sort.alloc_eq_grow, Go.Sort.alloc_eq_grow, Go.Sort.alloc_eq_grow, Go.Sort.grow_grow, Go.Sort.grow_grow]; rfl⟩⟩
  have a0 := (blk_cell P1 0).trans (Eq.refl (some (Value.int .i64 x.1)))
  have a1 := (blk_cell P1 1).trans (Eq.refl (some (Value.int .i64 x.2.1)))
  have a2 := (blk_cell P1 2).trans (Eq.refl (some (Value.string x.2.2)))
  have b0 := (blk_cell P2 0).trans (Eq.refl (some (Value.int .i64 y.1)))
  have b1 := (blk_cell P2 1).trans (Eq.refl (some (Value.int .i64 y.2.1)))
  have b2 := (blk_cell P2 2).trans (Eq.refl (some (Value.string y.2.2)))
  have HX := Aside0.mk (orI_cmp x y)
  generalize cmpM x y = cm at HX ⊢
  have HSe : Aside0 (∀ o, (fun w' : World => w'.cell? ⟨W.heap.size, 0, none⟩ = some (.int .i64 x.1) ∧ w'.cell? ⟨W.heap.size, 1, none⟩ = some (.int .i64 x.2.1) ∧ w'.cell? ⟨W.heap.size, 2, none⟩ = some (.string x.2.2) ∧ w'.cell? ⟨W.heap.size + 1, 0, none⟩ = some (.int .i64 y.1) ∧ w'.cell? ⟨W.heap.size + 1, 1, none⟩ = some (.int .i64 y.2.1) ∧ w'.cell? ⟨W.heap.size + 1, 2, none⟩ = some (.string y.2.2)) (W2.alloc o).drew) := ⟨fun o => ⟨(blk_cell (blk_alloc P1 o) 0).trans rfl, (blk_cell (blk_alloc P1 o) 1).trans rfl, (blk_cell (blk_alloc P1 o) 2).trans rfl, (blk_cell (blk_alloc P2 o) 0).trans rfl, (blk_cell (blk_alloc P2 o) 1).trans rfl, (blk_cell (blk_alloc P2 o) 2).trans rfl⟩⟩
  have HOr : Aside0 (∀ a b c : Int, Calls Try.prog 31 #[.slice (some ⟨W2.heap.size, 0, none⟩) 3 3] (W2.alloc (.cells #[.int .i64 a, .int .i64 b, .int .i64 c] 3)).drew fun e w' => e = .returned (.int .i64 (orI a b c)) ∧ w' = (W2.alloc (.cells #[.int .i64 a, .int .i64 b, .int .i64 c] 3)).drew) := ⟨fun a b c => or_calls a b c W2.heap.size _ ((blk_cell (blk_new W2 _) 0).trans rfl) ((blk_cell (blk_new W2 _) 1).trans rfl) ((blk_cell (blk_new W2 _) 2).trans rfl)⟩
  clear P1 P2
  go_enter Try.func30, Try.ntmps30
  go_upto_region 1 with fail
  rw [← hW2]
  clear hW2
  have HSd : Aside0 ((fun w' : World => w'.cell? ⟨W.heap.size, 0, none⟩ = some (.int .i64 x.1) ∧ w'.cell? ⟨W.heap.size, 1, none⟩ = some (.int .i64 x.2.1) ∧ w'.cell? ⟨W.heap.size, 2, none⟩ = some (.string x.2.2) ∧ w'.cell? ⟨W.heap.size + 1, 0, none⟩ = some (.int .i64 y.1) ∧ w'.cell? ⟨W.heap.size + 1, 1, none⟩ = some (.int .i64 y.2.1) ∧ w'.cell? ⟨W.heap.size + 1, 2, none⟩ = some (.string y.2.2)) W2.drew) := ⟨⟨a0, a1, a2, b0, b1, b2⟩⟩
  go_region_held3 (fun w' => w'.cell? ⟨W.heap.size, 0, none⟩ = some (.int .i64 x.1) ∧ w'.cell? ⟨W.heap.size, 1, none⟩ = some (.int .i64 x.2.1) ∧ w'.cell? ⟨W.heap.size, 2, none⟩ = some (.string x.2.2) ∧ w'.cell? ⟨W.heap.size + 1, 0, none⟩ = some (.int .i64 y.1) ∧ w'.cell? ⟨W.heap.size + 1, 1, none⟩ = some (.int .i64 y.2.1) ∧ w'.cell? ⟨W.heap.size + 1, 2, none⟩ = some (.string y.2.2)) (first | exact HSd.out | exact HSe.out _) (first
    | (go_at_call 32; refine (HC.out _ _ _).mono ?_; rintro e w4 ⟨rfl, rfl⟩)
    | (go_at_call 33; refine (HS.out _ _ _).mono ?_; rintro e w4 ⟨rfl, rfl⟩)
    | (go_at_call 31; refine (HOr.out _ _ _).mono ?_; rintro e w4 ⟨rfl, rfl⟩))
  all_goals
    go_wp2_with fail
    go_ret
    obtain ⟨os', hq⟩ := HG.out (.cells #[.int .i64 (cmpI x.2.1 y.2.1), .int .i64 (cmpI x.1 y.1), .int .i64 (cmpB x.2.2 y.2.2)] 3)
    exact ⟨congrArg (fun z => Ending.returned (Value.int .i64 z)) HX.out, 1, os', hq⟩
theorem cmpLays (blk off size : Nat) (w : World) : CmpLays Try.prog 30 #[] enc 3 cmpM blk off size w :=
  fun _ _ _ _ x y => closure_calls x y _
theorem ltT (x y : Msg) (h1 : Go.Proofs.ltOf cmpM x y = false) (h2 : Go.Proofs.ltOf cmpM y x = false) : x = y := by
  rw [ltOf_lt] at h1 h2
  exact lt_tri h1 h2
theorem sort_calls (blk off cap : Nat) (d : Array Msg) (w : World) (hH : Go.Sort.HoldsK enc 3 w blk off d) (hblk : blk < w.heap.size) (hsz : d.size < 4611686018427387904) :
    Calls Try.prog 37 #[.slice (some ⟨blk, off, none⟩) d.size cap, .func (.func 30) #[] #[]] w fun e w' => e = .returned (.tuple #[]) ∧ ∃ n os, w' = sortWorldK enc 3 w blk off n (d.toList.mergeSort fun x y => !Go.Proofs.ltOf cmpM y x).toArray os := by
  have eg : ∀ args w, (callFunc 30 args).run Try.prog w = .ok (.enter 30 args) w := enters_of Try.func30 (by kernel_rfl) rfl
  exact AnyQ.slices_SortFunc_total LayS.sortMsg 3 Try.isAgg30 Try.sizeOf30 enc (fun _ => rfl) (fun x v hv => by simp [enc] at hv; rcases hv with rfl | rfl | rfl <;> rfl) cmpM swo 30 #[] blk off cap d w eg (cmpLays blk off d.size w) hH hblk hsz ltT
theorem sort_none (p : Option Addr) (cap : Nat) (fv : Value) (w : World) : Calls Try.prog 37 #[.slice p 0 cap, fv] w fun e w' => e = .returned (.tuple #[]) ∧ w' = w :=
  AnyF.slices_SortFunc_none LayS.sortMsg p cap fv w
end Go.Proofs.Ytmledapichlhdaa.Bag
