/- The document's table: how it lies in memory; Wrong, find, Ask. -/
import Derived.Test.YtjjbikpjkbdabaaRTabS
import Derived.Test.YtjjbikpjkbdabaaTabO
set_option linter.unusedVariables false
set_option linter.unusedSimpArgs false
namespace Go.Proofs.Ytjjbikpjkbdabaa.RTab
open Go.RowKit Go.Proofs.YtjjbikpjkbdabaaW.PrintWords Go.Proofs.YtjjbikpjkbdabaaW.PrintLast Go.Proofs.YtjjbikpjkbdabaaW.PrintMore Go.Proofs.Ytjjbikpjkbdabaa.Maps Go.Proofs.Ytjjbikpjkbdabaa.TabS Go.Proofs.Ytjjbikpjkbdabaa.Tab
/-- What is known of a client, and where its names lie. -/
structure Kn where
  c : Int
  k : K
  A : Option Addr
  p : Nat
def Kn.kv (x : Kn) : Int × K := (x.c, x.k)
def kobj (x : Kn) : Array Value := #[.int .i64 x.c, .int .i64 x.k.req, .bool x.k.done, .int .i64 x.k.res.e, .string x.k.res.d, .int .i64 x.k.res.k, .int .i64 x.k.res.l, .int .i64 x.k.res.s, .slice x.A x.k.res.n.length x.p]
def kcells (x : Kn) : List Value := (kobj x).toList
def flatK (l : List Kn) : List Value := l.flatMap kcells
theorem kcells_len (x : Kn) : (kcells x).length = 9 := rfl
theorem flatK_len (l : List Kn) : (flatK l).length = l.length * 9 := flat_len kcells 9 kcells_len l
theorem flatK_at {l : List Kn} {i q : Nat} {x : Kn} (h : l[i]? = some x) (hq : q < 9) : (flatK l)[i * 9 + q]? = (kcells x)[q]? := flat_at kcells 9 kcells_len l i q x h hq
def tOf (l : List Kn) : T := l.map Kn.kv
/-- A row of known ones. -/
def RowK (B : Nat) (w : World) (base : Nat) (v : Value) (l : List Kn) : Prop := w.ownsRow base 54 9 v l.length (flatK l) ∧ ∀ x ∈ l, Names B w x.A x.k.res.n x.p
structure RIs (B : Nat) (w : World) (rb : Nat) (v : Value) (l : List Kn) : Prop where
  blk : w.heap[rb]? = some (.cells #[v] 47 (0, 0))
  row : RowK B w B v l
  bd : B ≤ rb
section
variable {B base rb : Nat} {w w' : World} {v : Value} {l : List Kn}
theorem RowK.below (h : RowK B w base v l) (hb : Below w.heap.size w w') : RowK B w' base v l :=
  ⟨own_move h.1 (fun k hk => hb.block k (own_lt h.1 k hk)), fun x hx => (h.2 x hx).below hb⟩
theorem RowK.slice (h : RowK B w base v l) : ∃ A c, v = .slice A l.length c := Go.Proofs.YtjjbikpjkbdabaaW.PrintWords.own_slice h.1
theorem RowK.nil (B : Nat) (w : World) (base : Nat) : RowK B w base (.slice none 0 0) [] := ⟨own_nil _ _ _ _, fun x hx => by simp at hx⟩
theorem RIs.below (h : RIs B w rb v l) (hb : Below w.heap.size w w') : RIs B w' rb v l := ⟨blk_below h.blk hb, h.row.below hb, h.bd⟩
theorem RIs.c0 (h : RIs B w rb v l) : w.cell? ⟨rb, 0, none⟩ = some v := (blk_cell h.blk 0).trans rfl
theorem RowK.at_ {A : Option Addr} {n c : Nat} (h : RowK B w base (.slice A n c) l) {i : Nat} {x : Kn} (hx : l[i]? = some x) :
    ∃ g, A = some ⟨g, 0, none⟩ ∧ ∀ q u, (kobj x)[q]? = some u → w.cell? ⟨g, i * 9 + q, none⟩ = some u := by
  have each : ∀ q u, (kobj x)[q]? = some u → ∃ g cap, Value.slice A n c = .slice (some ⟨g, 0, none⟩) l.length cap ∧ w.cell? ⟨g, i * 9 + q, none⟩ = some u := fun q u hq => by
    have hlt : q < 9 := by have := (Array.getElem?_eq_some_iff.1 hq).1; simpa [kobj] using this
    have hf : (flatK l)[i * 9 + q]? = some u := by
      rw [flatK_at hx hlt]
      unfold kcells
      rw [Array.getElem?_toList]
      exact hq
    exact own_cell h.1 hf
  obtain ⟨g, cap, he, _⟩ := each 0 _ rfl
  have hA : A = some ⟨g, 0, none⟩ := by simp at he; exact he.1
  refine ⟨g, hA, fun q u hq => ?_⟩
  obtain ⟨g', cap', he', hc⟩ := each q u hq
  have : g' = g := by rw [hA] at he'; simp at he'; exact he'.1.symm
  rw [← this]
  exact hc
end
set_option maxRecDepth 100000 in
theorem rwrong_calls (c r : Int) (w : World) : Calls Try.prog 19 #[.int .i64 c, .int .i64 r] w fun e w' => e = .returned (.bool (wrong c r)) ∧ w' = w := by
  unfold wrong
  by_cases h1 : c < 0
  · rw [if_pos h1]
    have b1 : decide (c < 0) = true := decide_eq_true h1
    clear h1
    go_enter Try.func19, Try.ntmps19
    go_wp2
    go_ret
    exact ⟨rfl, rfl⟩
  rw [if_neg h1]
  have b1 : decide (c < 0) = false := decide_eq_false h1
  clear h1
  by_cases h2 : c > 1099511627776
  · rw [if_pos h2]
    have b2 : decide (1099511627776 < c) = true := decide_eq_true h2
    clear h2
    go_enter Try.func19, Try.ntmps19
    go_wp2
    go_ret
    exact ⟨rfl, rfl⟩
  rw [if_neg h2]
  have b2 : decide (1099511627776 < c) = false := decide_eq_false h2
  clear h2
  by_cases h3 : r < 1
  · rw [if_pos h3]
    have b3 : decide (r < 1) = true := decide_eq_true h3
    clear h3
    go_enter Try.func19, Try.ntmps19
    go_wp2
    go_ret
    exact ⟨rfl, rfl⟩
  rw [if_neg h3]
  have b3 : decide (r < 1) = false := decide_eq_false h3
  clear h3
  go_enter Try.func19, Try.ntmps19
  go_wp2
  go_ret
  exact ⟨rfl, rfl⟩
/-- A client's place. -/
def fnd (l : List Kn) (c : Int) : Int := match l.findIdx? (fun x => x.c == c) with
  | none => -1
  | some j => (j : Int)
theorem fnd_hit {l : List Kn} {c : Int} {i : Nat} {x : Kn} (hx : l[i]? = some x) (hc : x.c = c) (hn : ∀ j y, j < i → l[j]? = some y → y.c ≠ c) : fnd l c = (i : Int) := by
  have hi : i < l.length := (List.getElem?_eq_some_iff.1 hx).1
  have : l.findIdx? (fun x => x.c == c) = some i := by
    rw [List.findIdx?_eq_some_iff_getElem]
    refine ⟨hi, ?_, fun j hj => ?_⟩
    · have : l[i] = x := by rw [List.getElem?_eq_getElem hi] at hx; exact Option.some.inj hx
      rw [this]; simpa using hc
    · have := hn j l[j] hj (List.getElem?_eq_getElem (by omega))
      simpa using this
  unfold fnd
  rw [this]
theorem fnd_miss {l : List Kn} {c : Int} (hn : ∀ y ∈ l, y.c ≠ c) : fnd l c = -1 := by
  have : l.findIdx? (fun x => x.c == c) = none := by
    rw [List.findIdx?_eq_none_iff]
    intro y hy
    simpa using hn y hy
  unfold fnd
  rw [this]
theorem fnd_cases (l : List Kn) (c : Int) : (fnd l c = -1 ∧ mget (tOf l) c = none) ∨ ∃ (i : Nat) (x : Kn), fnd l c = (i : Int) ∧ l[i]? = some x ∧ x.c = c ∧ i < l.length ∧ mget (tOf l) c = some x.k ∧ ∀ y : K, mput (tOf l) c y = (tOf l).set i (c, y) := by
  induction l with
  | nil => exact .inl ⟨rfl, rfl⟩
  | cons x l ih =>
    by_cases e : x.c = c
    · refine .inr ⟨0, x, fnd_hit (i := 0) rfl e (fun j y hj => by omega), rfl, e, by simp, ?_, fun y => ?_⟩
      · show mget ((x.c, x.k) :: tOf l) c = _
        unfold mget; rw [if_pos e]
      · show mput ((x.c, x.k) :: tOf l) c y = _
        unfold mput; rw [if_pos e]; rfl
    · have hf : fnd (x :: l) c = if fnd l c = -1 then -1 else fnd l c + 1 := by
        unfold fnd
        rw [List.findIdx?_cons, if_neg (by simpa using e)]
        cases l.findIdx? (fun x => x.c == c) with
        | none => rfl
        | some j =>
          show ((j + 1 : Nat) : Int) = if ((j : Nat) : Int) = -1 then -1 else (j : Int) + 1
          rw [if_neg (by omega)]
          omega
      have hg : mget (tOf (x :: l)) c = mget (tOf l) c := by
        show mget ((x.c, x.k) :: tOf l) c = _
        rw [mget, if_neg e]
      rcases ih with ⟨h1, h2⟩ | ⟨i, y, h1, h2, h3, h4, h5, h6⟩
      · exact .inl ⟨by rw [hf, if_pos h1], by rw [hg, h2]⟩
      · refine .inr ⟨i + 1, y, by rw [hf, h1]; split <;> omega, by simpa using h2, h3, by simpa using h4, by rw [hg, h5], fun z => ?_⟩
        show mput ((x.c, x.k) :: tOf l) c z = _
        rw [mput, if_neg e, h6]
        rfl
set_option maxHeartbeats 1600000 in
set_option maxRecDepth 100000 in
theorem find_calls {B rb : Nat} {w : World} {v : Value} {l : List Kn} (h : RIs B w rb v l) (c : Int) (hl : l.length ≤ 1000) :
    Calls Try.prog 24 #[ptr rb, .int .i64 c] w fun e w' => e = .returned (.int .i64 (fnd l c)) ∧ Below w.heap.size w w' := by
  have hup := Try.underlying44
  have hut := Try.underlying47
  have huk := Try.underlying54
  obtain ⟨A, cp, rfl⟩ := h.row.slice
  have c0 := h.c0
  have H := Aside0.mk h.row
  clear h
  unfold ptr
  go_enter Try.func24, Try.ntmps24
  go_wp2_with fail
  go_loopw [12] (fun v12 wr => ∃ i : Nat, i ≤ l.length ∧ v12 = .int .i64 (i : Int) ∧ Aside0 (∀ j y, j < i → l[j]? = some y → y.c ≠ c) ∧ Aside0 (Below w.heap.size w wr)) (fun x _ => l.length - (intOf x).toNat)
  case atStart => exact ⟨0, by omega, rfl, ⟨fun j y hj => by omega⟩, ⟨Below.refl _ _⟩⟩
  case round =>
    obtain ⟨i, hi, rfl, HN, HB⟩ := hrel
    by_cases hlt : i < l.length
    · obtain ⟨x, hx⟩ : ∃ x, l[i]? = some x := ⟨_, List.getElem?_eq_getElem hlt⟩
      obtain ⟨g, rfl, hcl⟩ := (H.out.below HB.out).at_ hx
      have x0 : wr.cell? ⟨g, i * 9, none⟩ = some (.int .i64 x.c) := hcl 0 _ rfl
      have x1 : wr.cell? ⟨g, i * 9 + 1, none⟩ = some (.int .i64 x.k.req) := hcl 1 _ rfl
      have x2 : wr.cell? ⟨g, i * 9 + 2, none⟩ = some (.bool x.k.done) := hcl 2 _ rfl
      have x3 : wr.cell? ⟨g, i * 9 + 3, none⟩ = some (.int .i64 x.k.res.e) := hcl 3 _ rfl
      have x4 : wr.cell? ⟨g, i * 9 + 4, none⟩ = some (.string x.k.res.d) := hcl 4 _ rfl
      have x5 : wr.cell? ⟨g, i * 9 + 5, none⟩ = some (.int .i64 x.k.res.k) := hcl 5 _ rfl
      have x6 : wr.cell? ⟨g, i * 9 + 6, none⟩ = some (.int .i64 x.k.res.l) := hcl 6 _ rfl
      have x7 : wr.cell? ⟨g, i * 9 + 7, none⟩ = some (.int .i64 x.k.res.s) := hcl 7 _ rfl
      have x8 : wr.cell? ⟨g, i * 9 + 8, none⟩ = some (.slice x.A x.k.res.n.length x.p) := hcl 8 _ rfl
      have hlt2 : (i : Int) < (l.length : Int) := by omega
      have B8 := Aside0.mk (HB.out.trans ((below_alloc (Below.refl wr.heap.size wr) (.cells (kobj x) 54)).mono HB.out.size))
      have HX := Aside0.mk hx
      clear hcl hx
      by_cases e : x.c = c
      · have r1 : (x.c == c) = true := by simpa using e
        have HE := Aside0.mk e
        clear e
        go_wp2_with fail
        go_ret
        exact ⟨(congrArg (fun z => Ending.returned (Value.int .i64 z)) (fnd_hit HX.out HE.out HN.out)).symm, B8.out⟩
      · have r1 : (x.c == c) = false := by simpa using e
        have HN2 : Aside0 (∀ j y, j < i + 1 → l[j]? = some y → y.c ≠ c) := ⟨fun j y hj hy => by
          by_cases hji : j < i
          · exact HN.out j y hji hy
          · obtain rfl : j = i := by omega
            rw [HX.out] at hy
            exact Option.some.inj hy ▸ e⟩
        clear e
        go_wp2_with fail
        go_roundw
        case rel => exact ⟨i + 1, by omega, by go_num, HN2, B8⟩
        case measure => simp [intOf]; omega
    · obtain rfl : i = l.length := by omega
      go_wp2_with fail
      go_ret
      refine ⟨(congrArg (fun z => Ending.returned (Value.int .i64 z)) (fnd_miss fun y hy => ?_)).symm, HB.out⟩
      obtain ⟨j, hj, rfl⟩ := List.getElem_of_mem hy
      exact HN.out j _ hj (List.getElem?_eq_getElem hj)
section
variable {B rb : Nat} {v : Value} {l : List Kn} {c r : Int} {w : World}
theorem bres (w : World) : Below w.heap.size w (w.alloc (.cells #[.int .i64 0, .string ⟨#[]⟩, .int .i64 0, .int .i64 0, .int .i64 0, .slice none 0 0] 29)) := below_alloc (Below.refl _ _) _
set_option maxHeartbeats 800000 in
set_option maxRecDepth 100000 in
theorem rask_wrong (h : RIs B w rb v l) (hw : wrong c r = true) : Calls Try.prog 16 #[ptr rb, .int .i64 c, .int .i64 r] w (AskPost B w (0, zero, 1)) := by
  have hu := Try.underlying29
  clear h
  unfold ptr
  go_enter Try.func16, Try.ntmps16
  go_wp2_with fail
  refine (rwrong_calls c r _).mono ?_
  rintro e w1 ⟨rfl, rfl⟩
  rw [hw]
  go_wp2_with fail
  exact bodyPost_ret (v := .tuple #[.int .i64 0, vres zero none 0, .int .i64 1]) (by simp [results, Try.results16, go_sem, vres, zero]; rfl) rfl ⟨none, 0, rfl, Names.nil _ _, bres w⟩
set_option maxHeartbeats 1600000 in
set_option maxRecDepth 100000 in
theorem rask_none (h : RIs B w rb v l) (hw : wrong c r = false) (hl : l.length ≤ 1000) (hf : fnd l c = -1) : Calls Try.prog 16 #[ptr rb, .int .i64 c, .int .i64 r] w (AskPost B w (1, zero, 0)) := by
  have hu := Try.underlying29
  have hup := Try.underlying44
  have hut := Try.underlying47
  have huk := Try.underlying54
  obtain ⟨A, cp, rfl⟩ := h.row.slice
  have H := Aside0.mk h
  have HFnd := Aside0.mk hf
  clear hf
  clear h
  unfold ptr
  go_enter Try.func16, Try.ntmps16
  go_wp2_with fail
  refine (rwrong_calls c r _).mono ?_
  rintro e w1 ⟨rfl, rfl⟩
  rw [hw]
  have HF := Aside0.mk (find_calls (H.out.below (bres w)) c hl)
  rw [HFnd.out] at HF
  unfold ptr at HF
  go_wp2_with fail
  refine HF.out.mono ?_
  rintro e w2 ⟨rfl, hb⟩
  have P := Aside0.mk (blk_below (blk_new w (.cells #[.int .i64 0, .string ⟨#[]⟩, .int .i64 0, .int .i64 0, .int .i64 0, .slice none 0 0] 29)) hb)
  have B2 := Aside0.mk ((bres w).trans (hb.mono (bres w).size))
  have c0 := (H.out.below B2.out).c0
  clear hb HF
  have f1 := blk_frozen P.out
  have d0 := (blk_cell P.out 0).trans rfl
  have d1 := (blk_cell P.out 1).trans rfl
  have d2 := (blk_cell P.out 2).trans rfl
  have d3 := (blk_cell P.out 3).trans rfl
  have d4 := (blk_cell P.out 4).trans rfl
  have d5 := (blk_cell P.out 5).trans rfl
  go_wp2_with fail
  exact bodyPost_ret (v := .tuple #[.int .i64 1, vres zero none 0, .int .i64 0]) (by simp [results, Try.results16, go_sem, vres, zero, d0, d1, d2, d3, d4, d5]; rfl) rfl ⟨none, 0, rfl, Names.nil _ _, ((((((B2.out.setCell (Nat.le_refl _) _).setCell (Nat.le_refl _) _).setCell (Nat.le_refl _) _).setCell (Nat.le_refl _) _).setCell (Nat.le_refl _) _).setCell (Nat.le_refl _) _)⟩
set_option maxHeartbeats 1600000 in
set_option maxRecDepth 100000 in
theorem rask_new (h : RIs B w rb v l) (hw : wrong c r = false) (hl : l.length ≤ 1000) {i : Nat} {x : Kn} (hf : fnd l c = (i : Int)) (hx : l[i]? = some x) (hr : x.k.req < r) : Calls Try.prog 16 #[ptr rb, .int .i64 c, .int .i64 r] w (AskPost B w (1, zero, 0)) := by
  have hu := Try.underlying29
  have hup := Try.underlying44
  have hut := Try.underlying47
  have huk := Try.underlying54
  obtain ⟨A, cp, rfl⟩ := h.row.slice
  have H := Aside0.mk h
  have hi : i < l.length := (List.getElem?_eq_some_iff.1 hx).1
  have hi2 : (i : Int) < (l.length : Int) := by omega
  have HX := Aside0.mk hx
  have HFnd := Aside0.mk hf
  have b1 : decide (x.k.req < r) = true := decide_eq_true hr
  have b0 : decide ((i : Int) < 0) = false := decide_eq_false (by omega)
  clear hf hx hr
  clear h
  unfold ptr
  go_enter Try.func16, Try.ntmps16
  go_wp2_with fail
  refine (rwrong_calls c r _).mono ?_
  rintro e w1 ⟨rfl, rfl⟩
  rw [hw]
  have HF := Aside0.mk (find_calls (H.out.below (bres w)) c hl)
  rw [HFnd.out] at HF
  unfold ptr at HF
  go_wp2_with fail
  refine HF.out.mono ?_
  rintro e w2 ⟨rfl, hb⟩
  have P := Aside0.mk (blk_below (blk_new w (.cells #[.int .i64 0, .string ⟨#[]⟩, .int .i64 0, .int .i64 0, .int .i64 0, .slice none 0 0] 29)) hb)
  have B2 := Aside0.mk ((bres w).trans (hb.mono (bres w).size))
  have c0 := (H.out.below B2.out).c0
  clear hb HF
  have f1 := blk_frozen P.out
  have d0 := (blk_cell P.out 0).trans rfl
  have d1 := (blk_cell P.out 1).trans rfl
  have d2 := (blk_cell P.out 2).trans rfl
  have d3 := (blk_cell P.out 3).trans rfl
  have d4 := (blk_cell P.out 4).trans rfl
  have d5 := (blk_cell P.out 5).trans rfl
  obtain ⟨g, rfl, hcl⟩ := (H.out.below B2.out).row.at_ HX.out
  have x1 : w2.cell? ⟨g, i * 9 + 1, none⟩ = some (.int .i64 x.k.req) := hcl 1 _ rfl
  have x2 : w2.cell? ⟨g, i * 9 + 2, none⟩ = some (.bool x.k.done) := hcl 2 _ rfl
  have x3 : w2.cell? ⟨g, i * 9 + 3, none⟩ = some (.int .i64 x.k.res.e) := hcl 3 _ rfl
  have x4 : w2.cell? ⟨g, i * 9 + 4, none⟩ = some (.string x.k.res.d) := hcl 4 _ rfl
  have x5 : w2.cell? ⟨g, i * 9 + 5, none⟩ = some (.int .i64 x.k.res.k) := hcl 5 _ rfl
  have x6 : w2.cell? ⟨g, i * 9 + 6, none⟩ = some (.int .i64 x.k.res.l) := hcl 6 _ rfl
  have x7 : w2.cell? ⟨g, i * 9 + 7, none⟩ = some (.int .i64 x.k.res.s) := hcl 7 _ rfl
  have x8 : w2.cell? ⟨g, i * 9 + 8, none⟩ = some (.slice x.A x.k.res.n.length x.p) := hcl 8 _ rfl
  clear hcl
  go_wp2_with fail
  exact bodyPost_ret (v := .tuple #[.int .i64 1, vres zero none 0, .int .i64 0]) (by simp [results, Try.results16, go_sem, vres, zero, d0, d1, d2, d3, d4, d5]; rfl) rfl ⟨none, 0, rfl, Names.nil _ _, ((((((B2.out.setCell (Nat.le_refl _) _).setCell (Nat.le_refl _) _).setCell (Nat.le_refl _) _).setCell (Nat.le_refl _) _).setCell (Nat.le_refl _) _).setCell (Nat.le_refl _) _)⟩
set_option maxHeartbeats 1600000 in
set_option maxRecDepth 100000 in
theorem rask_old (h : RIs B w rb v l) (hw : wrong c r = false) (hl : l.length ≤ 1000) {i : Nat} {x : Kn} (hf : fnd l c = (i : Int)) (hx : l[i]? = some x) (hr : r < x.k.req) : Calls Try.prog 16 #[ptr rb, .int .i64 c, .int .i64 r] w (AskPost B w (4, zero, 0)) := by
  have hu := Try.underlying29
  have hup := Try.underlying44
  have hut := Try.underlying47
  have huk := Try.underlying54
  obtain ⟨A, cp, rfl⟩ := h.row.slice
  have H := Aside0.mk h
  have hi : i < l.length := (List.getElem?_eq_some_iff.1 hx).1
  have hi2 : (i : Int) < (l.length : Int) := by omega
  have HX := Aside0.mk hx
  have HFnd := Aside0.mk hf
  have b1 : decide (x.k.req < r) = false := decide_eq_false (by omega)
  have b2 : decide (r < x.k.req) = true := decide_eq_true hr
  have b0 : decide ((i : Int) < 0) = false := decide_eq_false (by omega)
  clear hf hx hr
  clear h
  unfold ptr
  go_enter Try.func16, Try.ntmps16
  go_wp2_with fail
  refine (rwrong_calls c r _).mono ?_
  rintro e w1 ⟨rfl, rfl⟩
  rw [hw]
  have HF := Aside0.mk (find_calls (H.out.below (bres w)) c hl)
  rw [HFnd.out] at HF
  unfold ptr at HF
  go_wp2_with fail
  refine HF.out.mono ?_
  rintro e w2 ⟨rfl, hb⟩
  have P := Aside0.mk (blk_below (blk_new w (.cells #[.int .i64 0, .string ⟨#[]⟩, .int .i64 0, .int .i64 0, .int .i64 0, .slice none 0 0] 29)) hb)
  have B2 := Aside0.mk ((bres w).trans (hb.mono (bres w).size))
  have c0 := (H.out.below B2.out).c0
  clear hb HF
  have f1 := blk_frozen P.out
  have d0 := (blk_cell P.out 0).trans rfl
  have d1 := (blk_cell P.out 1).trans rfl
  have d2 := (blk_cell P.out 2).trans rfl
  have d3 := (blk_cell P.out 3).trans rfl
  have d4 := (blk_cell P.out 4).trans rfl
  have d5 := (blk_cell P.out 5).trans rfl
  obtain ⟨g, rfl, hcl⟩ := (H.out.below B2.out).row.at_ HX.out
  have x1 : w2.cell? ⟨g, i * 9 + 1, none⟩ = some (.int .i64 x.k.req) := hcl 1 _ rfl
  have x2 : w2.cell? ⟨g, i * 9 + 2, none⟩ = some (.bool x.k.done) := hcl 2 _ rfl
  have x3 : w2.cell? ⟨g, i * 9 + 3, none⟩ = some (.int .i64 x.k.res.e) := hcl 3 _ rfl
  have x4 : w2.cell? ⟨g, i * 9 + 4, none⟩ = some (.string x.k.res.d) := hcl 4 _ rfl
  have x5 : w2.cell? ⟨g, i * 9 + 5, none⟩ = some (.int .i64 x.k.res.k) := hcl 5 _ rfl
  have x6 : w2.cell? ⟨g, i * 9 + 6, none⟩ = some (.int .i64 x.k.res.l) := hcl 6 _ rfl
  have x7 : w2.cell? ⟨g, i * 9 + 7, none⟩ = some (.int .i64 x.k.res.s) := hcl 7 _ rfl
  have x8 : w2.cell? ⟨g, i * 9 + 8, none⟩ = some (.slice x.A x.k.res.n.length x.p) := hcl 8 _ rfl
  clear hcl
  go_wp2_with fail
  exact bodyPost_ret (v := .tuple #[.int .i64 4, vres zero none 0, .int .i64 0]) (by simp [results, Try.results16, go_sem, vres, zero, d0, d1, d2, d3, d4, d5]; rfl) rfl ⟨none, 0, rfl, Names.nil _ _, ((((((B2.out.setCell (Nat.le_refl _) _).setCell (Nat.le_refl _) _).setCell (Nat.le_refl _) _).setCell (Nat.le_refl _) _).setCell (Nat.le_refl _) _).setCell (Nat.le_refl _) _)⟩
set_option maxHeartbeats 1600000 in
set_option maxRecDepth 100000 in
theorem rask_runs (h : RIs B w rb v l) (hw : wrong c r = false) (hl : l.length ≤ 1000) {i : Nat} {x : Kn} (hf : fnd l c = (i : Int)) (hx : l[i]? = some x) (hr : x.k.req = r) (hd : x.k.done = false) : Calls Try.prog 16 #[ptr rb, .int .i64 c, .int .i64 r] w (AskPost B w (2, zero, 0)) := by
  have hu := Try.underlying29
  have hup := Try.underlying44
  have hut := Try.underlying47
  have huk := Try.underlying54
  obtain ⟨A, cp, rfl⟩ := h.row.slice
  have H := Aside0.mk h
  have hi : i < l.length := (List.getElem?_eq_some_iff.1 hx).1
  have hi2 : (i : Int) < (l.length : Int) := by omega
  have HX := Aside0.mk hx
  have HFnd := Aside0.mk hf
  have b1 : decide (x.k.req < r) = false := decide_eq_false (by omega)
  have b2 : decide (r < x.k.req) = false := decide_eq_false (by omega)
  have b0 : decide ((i : Int) < 0) = false := decide_eq_false (by omega)
  have HD := Aside0.mk hd
  clear hf hx hr hd
  clear h
  unfold ptr
  go_enter Try.func16, Try.ntmps16
  go_wp2_with fail
  refine (rwrong_calls c r _).mono ?_
  rintro e w1 ⟨rfl, rfl⟩
  rw [hw]
  have HF := Aside0.mk (find_calls (H.out.below (bres w)) c hl)
  rw [HFnd.out] at HF
  unfold ptr at HF
  go_wp2_with fail
  refine HF.out.mono ?_
  rintro e w2 ⟨rfl, hb⟩
  have P := Aside0.mk (blk_below (blk_new w (.cells #[.int .i64 0, .string ⟨#[]⟩, .int .i64 0, .int .i64 0, .int .i64 0, .slice none 0 0] 29)) hb)
  have B2 := Aside0.mk ((bres w).trans (hb.mono (bres w).size))
  have c0 := (H.out.below B2.out).c0
  clear hb HF
  have f1 := blk_frozen P.out
  have d0 := (blk_cell P.out 0).trans rfl
  have d1 := (blk_cell P.out 1).trans rfl
  have d2 := (blk_cell P.out 2).trans rfl
  have d3 := (blk_cell P.out 3).trans rfl
  have d4 := (blk_cell P.out 4).trans rfl
  have d5 := (blk_cell P.out 5).trans rfl
  obtain ⟨g, rfl, hcl⟩ := (H.out.below B2.out).row.at_ HX.out
  have x1 : w2.cell? ⟨g, i * 9 + 1, none⟩ = some (.int .i64 x.k.req) := hcl 1 _ rfl
  have x2 : w2.cell? ⟨g, i * 9 + 2, none⟩ = some (.bool x.k.done) := hcl 2 _ rfl
  have x3 : w2.cell? ⟨g, i * 9 + 3, none⟩ = some (.int .i64 x.k.res.e) := hcl 3 _ rfl
  have x4 : w2.cell? ⟨g, i * 9 + 4, none⟩ = some (.string x.k.res.d) := hcl 4 _ rfl
  have x5 : w2.cell? ⟨g, i * 9 + 5, none⟩ = some (.int .i64 x.k.res.k) := hcl 5 _ rfl
  have x6 : w2.cell? ⟨g, i * 9 + 6, none⟩ = some (.int .i64 x.k.res.l) := hcl 6 _ rfl
  have x7 : w2.cell? ⟨g, i * 9 + 7, none⟩ = some (.int .i64 x.k.res.s) := hcl 7 _ rfl
  have x8 : w2.cell? ⟨g, i * 9 + 8, none⟩ = some (.slice x.A x.k.res.n.length x.p) := hcl 8 _ rfl
  clear hcl
  rw [HD.out] at x2
  go_wp2_with fail
  exact bodyPost_ret (v := .tuple #[.int .i64 2, vres zero none 0, .int .i64 0]) (by simp [results, Try.results16, go_sem, vres, zero, d0, d1, d2, d3, d4, d5]; rfl) rfl ⟨none, 0, rfl, Names.nil _ _, ((((((B2.out.setCell (Nat.le_refl _) _).setCell (Nat.le_refl _) _).setCell (Nat.le_refl _) _).setCell (Nat.le_refl _) _).setCell (Nat.le_refl _) _).setCell (Nat.le_refl _) _)⟩
set_option maxHeartbeats 1600000 in
set_option maxRecDepth 100000 in
theorem rask_told (h : RIs B w rb v l) (hw : wrong c r = false) (hl : l.length ≤ 1000) {i : Nat} {x : Kn} (hf : fnd l c = (i : Int)) (hx : l[i]? = some x) (hBw : B ≤ w.heap.size) (hr : x.k.req = r) (hd : x.k.done = true) : Calls Try.prog 16 #[ptr rb, .int .i64 c, .int .i64 r] w (AskPost B w (3, x.k.res, 0)) := by
  have hu := Try.underlying29
  have hup := Try.underlying44
  have hut := Try.underlying47
  have huk := Try.underlying54
  obtain ⟨A, cp, rfl⟩ := h.row.slice
  have H := Aside0.mk h
  have hi : i < l.length := (List.getElem?_eq_some_iff.1 hx).1
  have hi2 : (i : Int) < (l.length : Int) := by omega
  have HX := Aside0.mk hx
  have HFnd := Aside0.mk hf
  have b1 : decide (x.k.req < r) = false := decide_eq_false (by omega)
  have b2 : decide (r < x.k.req) = false := decide_eq_false (by omega)
  have b0 : decide ((i : Int) < 0) = false := decide_eq_false (by omega)
  have HD := Aside0.mk hd
  clear hf hx hr hd
  clear h
  unfold ptr
  go_enter Try.func16, Try.ntmps16
  go_wp2_with fail
  refine (rwrong_calls c r _).mono ?_
  rintro e w1 ⟨rfl, rfl⟩
  rw [hw]
  have HF := Aside0.mk (find_calls (H.out.below (bres w)) c hl)
  rw [HFnd.out] at HF
  unfold ptr at HF
  go_wp2_with fail
  refine HF.out.mono ?_
  rintro e w2 ⟨rfl, hb⟩
  have P := Aside0.mk (blk_below (blk_new w (.cells #[.int .i64 0, .string ⟨#[]⟩, .int .i64 0, .int .i64 0, .int .i64 0, .slice none 0 0] 29)) hb)
  have B2 := Aside0.mk ((bres w).trans (hb.mono (bres w).size))
  have c0 := (H.out.below B2.out).c0
  clear hb HF
  have f1 := blk_frozen P.out
  have d0 := (blk_cell P.out 0).trans rfl
  have d1 := (blk_cell P.out 1).trans rfl
  have d2 := (blk_cell P.out 2).trans rfl
  have d3 := (blk_cell P.out 3).trans rfl
  have d4 := (blk_cell P.out 4).trans rfl
  have d5 := (blk_cell P.out 5).trans rfl
  obtain ⟨g, rfl, hcl⟩ := (H.out.below B2.out).row.at_ HX.out
  have x1 : w2.cell? ⟨g, i * 9 + 1, none⟩ = some (.int .i64 x.k.req) := hcl 1 _ rfl
  have x2 : w2.cell? ⟨g, i * 9 + 2, none⟩ = some (.bool x.k.done) := hcl 2 _ rfl
  have x3 : w2.cell? ⟨g, i * 9 + 3, none⟩ = some (.int .i64 x.k.res.e) := hcl 3 _ rfl
  have x4 : w2.cell? ⟨g, i * 9 + 4, none⟩ = some (.string x.k.res.d) := hcl 4 _ rfl
  have x5 : w2.cell? ⟨g, i * 9 + 5, none⟩ = some (.int .i64 x.k.res.k) := hcl 5 _ rfl
  have x6 : w2.cell? ⟨g, i * 9 + 6, none⟩ = some (.int .i64 x.k.res.l) := hcl 6 _ rfl
  have x7 : w2.cell? ⟨g, i * 9 + 7, none⟩ = some (.int .i64 x.k.res.s) := hcl 7 _ rfl
  have x8 : w2.cell? ⟨g, i * 9 + 8, none⟩ = some (.slice x.A x.k.res.n.length x.p) := hcl 8 _ rfl
  clear hcl
  rw [HD.out] at x2
  have hn := (H.out.below B2.out).row.2 x (List.mem_of_getElem? HX.out)
  have n1 := hn.far P.out (by decide) hBw 0 (.int .i64 x.k.res.e)
  have q1 := blk_set P.out 0 (.int .i64 x.k.res.e)
  have n2 := n1.far q1 (by decide) hBw 1 (.string x.k.res.d)
  have q2 := blk_set q1 1 (.string x.k.res.d)
  have n3 := n2.far q2 (by decide) hBw 2 (.int .i64 x.k.res.k)
  have q3 := blk_set q2 2 (.int .i64 x.k.res.k)
  have n4 := n3.far q3 (by decide) hBw 3 (.int .i64 x.k.res.l)
  have q4 := blk_set q3 3 (.int .i64 x.k.res.l)
  have n5 := n4.far q4 (by decide) hBw 4 (.int .i64 x.k.res.s)
  have q5 := blk_set q4 4 (.int .i64 x.k.res.s)
  have n6 := n5.far q5 (by decide) hBw 5 (.slice x.A x.k.res.n.length x.p)
  have N6 := Aside0.mk n6
  clear hn n1 q1 n2 q2 n3 q3 n4 q4 n5 q5 n6
  go_wp2_with fail
  go_region
  all_goals
    go_wp2_with fail
    exact bodyPost_ret (v := .tuple #[.int .i64 3, vres x.k.res x.A x.p, .int .i64 0]) (by simp [results, Try.results16, go_sem, vres, d0, d1, d2, d3, d4, d5]) rfl ⟨x.A, x.p, rfl, N6.out.below (below_drew1 (Below.refl _ _)), below_drew1 ((((((B2.out.setCell (Nat.le_refl _) _).setCell (Nat.le_refl _) _).setCell (Nat.le_refl _) _).setCell (Nat.le_refl _) _).setCell (Nat.le_refl _) _).setCell (Nat.le_refl _) _)⟩
theorem rask_calls (h : RIs B w rb v l) (hBw : B ≤ w.heap.size) (hl : l.length ≤ 1000) : Calls Try.prog 16 #[ptr rb, .int .i64 c, .int .i64 r] w (AskPost B w (tAsk (tOf l) c r)) := by
  unfold tAsk
  by_cases hw : wrong c r = true
  · rw [if_pos hw]; exact rask_wrong h hw
  rw [if_neg hw]
  replace hw : wrong c r = false := by simpa using hw
  rcases fnd_cases l c with ⟨h1, h2⟩ | ⟨i, x, h1, h2, h3, h4, h5, h6⟩
  · rw [h2]; exact rask_none h hw hl h1
  · rw [h5]
    dsimp only
    by_cases q1 : x.k.req < r
    · rw [if_pos q1]; exact rask_new h hw hl h1 h2 q1
    rw [if_neg q1]
    by_cases q2 : r < x.k.req
    · rw [if_pos q2]; exact rask_old h hw hl h1 h2 q2
    rw [if_neg q2]
    by_cases q3 : x.k.done = true
    · rw [if_pos q3]; exact rask_told h hw hl h1 h2 hBw (by omega) q3
    · rw [if_neg q3]; exact rask_runs h hw hl h1 h2 (by omega) (by simpa using q3)
end
/-- The blocks that the document's table has. -/
def fpR (rb : Nat) (v : Value) (k : Nat) : Prop := k = rb ∨ v.ownBlock = some k
def RPost (B rb : Nat) (v : Value) (w : World) (t : T × Int) (e : Ending) (w' : World) : Prop :=
  e = .returned (.int .i64 t.2) ∧ ∃ v' l', RIs B w' rb v' l' ∧ tOf l' = t.1 ∧ Fr w w' (fpR rb v) ∧ ∀ k, fpR rb v' k → fpR rb v k ∨ w.heap.size ≤ k
theorem own_set {w : World} {base n c g : Nat} {e : TypeId} {size : Nat} {xs : List Value} (h : w.ownsRow base e size (.slice (some ⟨g, 0, none⟩) n c) n xs) (j : Nat) (u : Value) (hj : j < xs.length) :
    (w.setCell ⟨g, j, none⟩ u).ownsRow base e size (.slice (some ⟨g, 0, none⟩) n c) n (xs.set j u) := by
  obtain ⟨hl, h2⟩ := h
  refine ⟨by rw [List.length_set]; exact hl, ?_⟩
  rcases h2 with ⟨h1, _⟩ | ⟨g', cap, cur, h1, hb, hh, h3, h4, h5, h6⟩
  · simp at h1
  · have e1 : g' = g := by simp only [Value.slice.injEq, Option.some.injEq, Addr.mk.injEq] at h1; exact h1.1.1.symm
    have e2 : cap = c := by simp only [Value.slice.injEq] at h1; exact h1.2.2.symm
    subst e1 e2
    refine .inr ⟨g', cap, cur.setIfInBounds j u, rfl, hb, blk_set hh j u, h3, h4, by simpa using h5, ?_⟩
    rw [Array.toList_setIfInBounds, List.take_set, h6]
theorem flat_set {l : List Kn} {i : Nat} {x : Kn} {xs : List Value} (hi : i < l.length) (hl : xs.length = l.length * 9) (h1 : ∀ k, k < i * 9 ∨ i * 9 + 9 ≤ k → xs[k]? = (flatK l)[k]?) (h2 : ∀ q, q < 9 → xs[i * 9 + q]? = (kcells x)[q]?) : xs = flatK (l.set i x) := by
  apply List.ext_getElem?
  intro k
  by_cases hk : k < i * 9 ∨ i * 9 + 9 ≤ k
  · rw [h1 k hk]
    have e : k = (k / 9) * 9 + k % 9 := by omega
    have hne : k / 9 ≠ i := by omega
    rw [e]
    by_cases hlt : k / 9 < l.length
    · rw [flatK_at (List.getElem?_eq_getElem hlt) (by omega), flatK_at (x := l[k / 9]) (by rw [List.getElem?_set_ne (Ne.symm hne)]; exact List.getElem?_eq_getElem hlt) (by omega)]
    · rw [List.getElem?_eq_none (by rw [flatK_len]; omega), List.getElem?_eq_none (by rw [flatK_len, List.length_set]; omega)]
  · obtain ⟨q, rfl⟩ : ∃ q, k = i * 9 + q := ⟨k - i * 9, by omega⟩
    rw [h2 q (by omega), flatK_at (x := x) (by rw [List.getElem?_set_self hi]) (by omega)]
theorem setc_far {w : World} {g i k : Nat} {u : Value} (h : k ≠ g) : (w.setCell ⟨g, i, none⟩ u).heap[k]? = w.heap[k]? := Below.heap_setCell w ⟨g, i, none⟩ u k (fun e => h e)
theorem fr_set1 (w : World) (g i : Nat) (u : Value) : Fr w (w.setCell ⟨g, i, none⟩ u) (fun k => k = g) := ⟨rfl, rfl, rfl, Nat.le_of_eq (setc_size w g i u).symm, fun k _ hk => setc_far hk⟩
theorem fr_set7 {w : World} {g a1 a2 a3 a4 a5 a6 a7 : Nat} {u1 u2 u3 u4 u5 u6 u7 : Value} : Fr w (((((((w.setCell ⟨g, a1, none⟩ u1).setCell ⟨g, a2, none⟩ u2).setCell ⟨g, a3, none⟩ u3).setCell ⟨g, a4, none⟩ u4).setCell ⟨g, a5, none⟩ u5).setCell ⟨g, a6, none⟩ u6).setCell ⟨g, a7, none⟩ u7) (fun k => k = g) :=
  ((((((fr_set1 w g a1 u1).trans (fr_set1 _ g a2 u2) (fun _ h => .inl h)).trans (fr_set1 _ g a3 u3) (fun _ h => .inl h)).trans (fr_set1 _ g a4 u4) (fun _ h => .inl h)).trans (fr_set1 _ g a5 u5) (fun _ h => .inl h)).trans (fr_set1 _ g a6 u6) (fun _ h => .inl h)).trans (fr_set1 _ g a7 u7) (fun _ h => .inl h)
/-- A known one, told its result. -/
theorem row_done {B base : Nat} {w : World} {g n cp : Nat} {l : List Kn} {i : Nat} {x : Kn} (h : RowK B w base (.slice (some ⟨g, 0, none⟩) n cp) l) (hn : n = l.length) (hx : l[i]? = some x) (hbg : B ≤ g) {y : Res} {A : Option Addr} {p : Nat} (hy : Names B w A y.n p) :
    RowK B ((((((((w.setCell ⟨g, i * 9 + 2, none⟩ (.bool true)).setCell ⟨g, i * 9 + 3, none⟩ (.int .i64 y.e)).setCell ⟨g, i * 9 + 4, none⟩ (.string y.d)).setCell ⟨g, i * 9 + 5, none⟩ (.int .i64 y.k)).setCell ⟨g, i * 9 + 6, none⟩ (.int .i64 y.l)).setCell ⟨g, i * 9 + 7, none⟩ (.int .i64 y.s)).setCell ⟨g, i * 9 + 8, none⟩ (.slice A y.n.length p))) base (.slice (some ⟨g, 0, none⟩) n cp) (l.set i ⟨x.c, ⟨x.k.req, true, y⟩, A, p⟩) := by
  subst hn
  have hi : i < l.length := (List.getElem?_eq_some_iff.1 hx).1
  obtain ⟨cells, hb⟩ := own_typed h.1 g rfl
  have hlen := flatK_len l
  have o1 := own_set h.1 (i * 9 + 2) (.bool true) (by rw [hlen]; omega)
  have o2 := own_set o1 (i * 9 + 3) (.int .i64 y.e) (by rw [List.length_set, hlen]; omega)
  have o3 := own_set o2 (i * 9 + 4) (.string y.d) (by rw [List.length_set, List.length_set, hlen]; omega)
  have o4 := own_set o3 (i * 9 + 5) (.int .i64 y.k) (by simp only [List.length_set, hlen]; omega)
  have o5 := own_set o4 (i * 9 + 6) (.int .i64 y.l) (by simp only [List.length_set, hlen]; omega)
  have o6 := own_set o5 (i * 9 + 7) (.int .i64 y.s) (by simp only [List.length_set, hlen]; omega)
  have o7 := own_set o6 (i * 9 + 8) (.slice A y.n.length p) (by simp only [List.length_set, hlen]; omega)
  have hN : ∀ {A2 : Option Addr} {m : List ByteArray} {c2 : Nat}, Names B w A2 m c2 → Names B ((((((((w.setCell ⟨g, i * 9 + 2, none⟩ (.bool true)).setCell ⟨g, i * 9 + 3, none⟩ (.int .i64 y.e)).setCell ⟨g, i * 9 + 4, none⟩ (.string y.d)).setCell ⟨g, i * 9 + 5, none⟩ (.int .i64 y.k)).setCell ⟨g, i * 9 + 6, none⟩ (.int .i64 y.l)).setCell ⟨g, i * 9 + 7, none⟩ (.int .i64 y.s)).setCell ⟨g, i * 9 + 8, none⟩ (.slice A y.n.length p))) A2 m c2 := fun hn => by
    have n1 := hn.far hb (by decide) hbg (i * 9 + 2) (.bool true)
    have q1 := blk_set hb (i * 9 + 2) (.bool true)
    have n2 := n1.far q1 (by decide) hbg (i * 9 + 3) (.int .i64 y.e)
    have q2 := blk_set q1 (i * 9 + 3) (.int .i64 y.e)
    have n3 := n2.far q2 (by decide) hbg (i * 9 + 4) (.string y.d)
    have q3 := blk_set q2 (i * 9 + 4) (.string y.d)
    have n4 := n3.far q3 (by decide) hbg (i * 9 + 5) (.int .i64 y.k)
    have q4 := blk_set q3 (i * 9 + 5) (.int .i64 y.k)
    have n5 := n4.far q4 (by decide) hbg (i * 9 + 6) (.int .i64 y.l)
    have q5 := blk_set q4 (i * 9 + 6) (.int .i64 y.l)
    have n6 := n5.far q5 (by decide) hbg (i * 9 + 7) (.int .i64 y.s)
    have q6 := blk_set q5 (i * 9 + 7) (.int .i64 y.s)
    exact n6.far q6 (by decide) hbg (i * 9 + 8) (.slice A y.n.length p)
  refine ⟨?_, fun z hz => ?_⟩
  · have e := flat_set (l := l) (i := i) (x := ⟨x.c, ⟨x.k.req, true, y⟩, A, p⟩) (xs := (((((((flatK l).set (i * 9 + 2) (.bool true)).set (i * 9 + 3) (.int .i64 y.e)).set (i * 9 + 4) (.string y.d)).set (i * 9 + 5) (.int .i64 y.k)).set (i * 9 + 6) (.int .i64 y.l)).set (i * 9 + 7) (.int .i64 y.s)).set (i * 9 + 8) (.slice A y.n.length p)) hi (by simp only [List.length_set, hlen]) (fun k hk => by
        rw [List.getElem?_set_ne (by omega), List.getElem?_set_ne (by omega), List.getElem?_set_ne (by omega), List.getElem?_set_ne (by omega), List.getElem?_set_ne (by omega), List.getElem?_set_ne (by omega), List.getElem?_set_ne (by omega)]) (fun q hq => by
        have h0 := flatK_at hx (show 0 < 9 by omega)
        have h1 := flatK_at hx (show 1 < 9 by omega)
        have hlt : ∀ q, q < 9 → i * 9 + q < (flatK l).length := fun q hq => by rw [hlen]; omega
        rcases (show q = 0 ∨ q = 1 ∨ q = 2 ∨ q = 3 ∨ q = 4 ∨ q = 5 ∨ q = 6 ∨ q = 7 ∨ q = 8 by omega) with rfl | rfl | rfl | rfl | rfl | rfl | rfl | rfl | rfl
        · rw [List.getElem?_set_ne (by omega), List.getElem?_set_ne (by omega), List.getElem?_set_ne (by omega), List.getElem?_set_ne (by omega), List.getElem?_set_ne (by omega), List.getElem?_set_ne (by omega), List.getElem?_set_ne (by omega), h0]; rfl
        · rw [List.getElem?_set_ne (by omega), List.getElem?_set_ne (by omega), List.getElem?_set_ne (by omega), List.getElem?_set_ne (by omega), List.getElem?_set_ne (by omega), List.getElem?_set_ne (by omega), List.getElem?_set_ne (by omega), h1]; rfl
        · rw [List.getElem?_set_ne (by omega), List.getElem?_set_ne (by omega), List.getElem?_set_ne (by omega), List.getElem?_set_ne (by omega), List.getElem?_set_ne (by omega), List.getElem?_set_ne (by omega), List.getElem?_set_self (hlt 2 (by omega))]; rfl
        · rw [List.getElem?_set_ne (by omega), List.getElem?_set_ne (by omega), List.getElem?_set_ne (by omega), List.getElem?_set_ne (by omega), List.getElem?_set_ne (by omega), List.getElem?_set_self (by simp only [List.length_set]; exact hlt 3 (by omega))]; rfl
        · rw [List.getElem?_set_ne (by omega), List.getElem?_set_ne (by omega), List.getElem?_set_ne (by omega), List.getElem?_set_ne (by omega), List.getElem?_set_self (by simp only [List.length_set]; exact hlt 4 (by omega))]; rfl
        · rw [List.getElem?_set_ne (by omega), List.getElem?_set_ne (by omega), List.getElem?_set_ne (by omega), List.getElem?_set_self (by simp only [List.length_set]; exact hlt 5 (by omega))]; rfl
        · rw [List.getElem?_set_ne (by omega), List.getElem?_set_ne (by omega), List.getElem?_set_self (by simp only [List.length_set]; exact hlt 6 (by omega))]; rfl
        · rw [List.getElem?_set_ne (by omega), List.getElem?_set_self (by simp only [List.length_set]; exact hlt 7 (by omega))]; rfl
        · rw [List.getElem?_set_self (by simp only [List.length_set]; exact hlt 8 (by omega))]; rfl)
    rw [List.length_set, ← e]
    exact o7
  · rcases List.mem_or_eq_of_mem_set hz with hz | rfl
    · exact hN (h.2 z hz)
    · exact hN hy
section
variable {B rb : Nat} {v : Value} {l : List Kn} {c r : Int} {w : World} {x : Res} {A : Option Addr} {cx : Nat}
theorem RPost.same {w' : World} {code : Int} (h : RIs B w rb v l) (hb : Below w.heap.size w w') : RPost B rb v w (tOf l, code) (.returned (.int .i64 code)) w' :=
  ⟨rfl, v, l, h.below hb, rfl, Fr.of_below hb _, fun k hk => .inl hk⟩
theorem bresx (w : World) (x : Res) (A : Option Addr) (cx : Nat) : Below w.heap.size w (w.alloc (.cells #[.int .i64 x.e, .string x.d, .int .i64 x.k, .int .i64 x.l, .int .i64 x.s, .slice A x.n.length cx] 29)) := below_alloc (Below.refl _ _) _
set_option maxHeartbeats 1600000 in
set_option maxRecDepth 100000 in
theorem rdone_wrong (h : RIs B w rb v l) (hw : wrong c r = true) : Calls Try.prog 15 #[ptr rb, .int .i64 c, .int .i64 r, vres x A cx] w (RPost B rb v w (tOf l, 1)) := by
  have hu := Try.underlying29
  have hup := Try.underlying44
  have hut := Try.underlying47
  have huk := Try.underlying54
  have H := Aside0.mk h
  clear h
  unfold ptr vres
  go_enter Try.func15, Try.ntmps15
  go_wp2_with fail
  refine (rwrong_calls c r _).mono ?_
  rintro e w1 ⟨rfl, rfl⟩
  rw [hw]
  go_wp2_with fail
  go_ret
  exact RPost.same H.out (bresx w x A cx)
set_option maxHeartbeats 3200000 in
set_option maxRecDepth 100000 in
theorem rdone_none (h : RIs B w rb v l) (hw : wrong c r = false) (hl : l.length ≤ 1000) (hf : fnd l c = -1) : Calls Try.prog 15 #[ptr rb, .int .i64 c, .int .i64 r, vres x A cx] w (RPost B rb v w (tOf l, 6)) := by
  have hu := Try.underlying29
  have hup := Try.underlying44
  have hut := Try.underlying47
  have huk := Try.underlying54
  obtain ⟨Av, cp, rfl⟩ := h.row.slice
  have H := Aside0.mk h
  have HFnd := Aside0.mk hf
  clear hf
  clear h
  unfold ptr vres
  go_enter Try.func15, Try.ntmps15
  go_wp2_with fail
  refine (rwrong_calls c r _).mono ?_
  rintro e w1 ⟨rfl, rfl⟩
  rw [hw]
  have HF := Aside0.mk (find_calls (H.out.below (bresx w x A cx)) c hl)
  rw [HFnd.out] at HF
  unfold ptr at HF
  go_wp2_with fail
  refine HF.out.mono ?_
  rintro e w2 ⟨rfl, hb⟩
  have P := Aside0.mk (blk_below (blk_new w (.cells #[.int .i64 x.e, .string x.d, .int .i64 x.k, .int .i64 x.l, .int .i64 x.s, .slice A x.n.length cx] 29)) hb)
  have B2 := Aside0.mk ((bresx w x A cx).trans (hb.mono (bresx w x A cx).size))
  have c0 := (H.out.below B2.out).c0
  clear hb HF
  go_wp2_with fail
  go_ret
  exact RPost.same H.out B2.out
set_option maxHeartbeats 3200000 in
set_option maxRecDepth 100000 in
theorem rdone_other (h : RIs B w rb v l) (hw : wrong c r = false) (hl : l.length ≤ 1000) {i : Nat} {z : Kn} (hf : fnd l c = (i : Int)) (hz : l[i]? = some z) (hr : z.k.req ≠ r) : Calls Try.prog 15 #[ptr rb, .int .i64 c, .int .i64 r, vres x A cx] w (RPost B rb v w (tOf l, 6)) := by
  have hu := Try.underlying29
  have hup := Try.underlying44
  have hut := Try.underlying47
  have huk := Try.underlying54
  obtain ⟨Av, cp, rfl⟩ := h.row.slice
  have H := Aside0.mk h
  have hi : i < l.length := (List.getElem?_eq_some_iff.1 hz).1
  have hi2 : (i : Int) < (l.length : Int) := by omega
  have b0 : decide ((i : Int) < 0) = false := decide_eq_false (by omega)
  have HX := Aside0.mk hz
  have HFnd := Aside0.mk hf
  have b1 : (z.k.req != r) = true := by simpa using hr
  clear hf hz hr
  clear h
  unfold ptr vres
  go_enter Try.func15, Try.ntmps15
  go_wp2_with fail
  refine (rwrong_calls c r _).mono ?_
  rintro e w1 ⟨rfl, rfl⟩
  rw [hw]
  have HF := Aside0.mk (find_calls (H.out.below (bresx w x A cx)) c hl)
  rw [HFnd.out] at HF
  unfold ptr at HF
  go_wp2_with fail
  refine HF.out.mono ?_
  rintro e w2 ⟨rfl, hb⟩
  have P := Aside0.mk (blk_below (blk_new w (.cells #[.int .i64 x.e, .string x.d, .int .i64 x.k, .int .i64 x.l, .int .i64 x.s, .slice A x.n.length cx] 29)) hb)
  have B2 := Aside0.mk ((bresx w x A cx).trans (hb.mono (bresx w x A cx).size))
  have c0 := (H.out.below B2.out).c0
  clear hb HF
  obtain ⟨g, rfl, hcl⟩ := (H.out.below B2.out).row.at_ HX.out
  have x1 : w2.cell? ⟨g, i * 9 + 1, none⟩ = some (.int .i64 z.k.req) := hcl 1 _ rfl
  have x2 : w2.cell? ⟨g, i * 9 + 2, none⟩ = some (.bool z.k.done) := hcl 2 _ rfl
  clear hcl
  go_wp2_with fail
  go_ret
  exact RPost.same H.out B2.out
set_option maxHeartbeats 3200000 in
set_option maxRecDepth 100000 in
theorem rdone_again (h : RIs B w rb v l) (hw : wrong c r = false) (hl : l.length ≤ 1000) {i : Nat} {z : Kn} (hf : fnd l c = (i : Int)) (hz : l[i]? = some z) (hr : z.k.req = r) (hd : z.k.done = true) : Calls Try.prog 15 #[ptr rb, .int .i64 c, .int .i64 r, vres x A cx] w (RPost B rb v w (tOf l, 7)) := by
  have hu := Try.underlying29
  have hup := Try.underlying44
  have hut := Try.underlying47
  have huk := Try.underlying54
  obtain ⟨Av, cp, rfl⟩ := h.row.slice
  have H := Aside0.mk h
  have hi : i < l.length := (List.getElem?_eq_some_iff.1 hz).1
  have hi2 : (i : Int) < (l.length : Int) := by omega
  have b0 : decide ((i : Int) < 0) = false := decide_eq_false (by omega)
  have HX := Aside0.mk hz
  have HFnd := Aside0.mk hf
  have b1 : (z.k.req != r) = false := by simpa using hr
  have HD := Aside0.mk hd
  clear hf hz hr hd
  clear h
  unfold ptr vres
  go_enter Try.func15, Try.ntmps15
  go_wp2_with fail
  refine (rwrong_calls c r _).mono ?_
  rintro e w1 ⟨rfl, rfl⟩
  rw [hw]
  have HF := Aside0.mk (find_calls (H.out.below (bresx w x A cx)) c hl)
  rw [HFnd.out] at HF
  unfold ptr at HF
  go_wp2_with fail
  refine HF.out.mono ?_
  rintro e w2 ⟨rfl, hb⟩
  have P := Aside0.mk (blk_below (blk_new w (.cells #[.int .i64 x.e, .string x.d, .int .i64 x.k, .int .i64 x.l, .int .i64 x.s, .slice A x.n.length cx] 29)) hb)
  have B2 := Aside0.mk ((bresx w x A cx).trans (hb.mono (bresx w x A cx).size))
  have c0 := (H.out.below B2.out).c0
  clear hb HF
  obtain ⟨g, rfl, hcl⟩ := (H.out.below B2.out).row.at_ HX.out
  have x1 : w2.cell? ⟨g, i * 9 + 1, none⟩ = some (.int .i64 z.k.req) := hcl 1 _ rfl
  have x2 : w2.cell? ⟨g, i * 9 + 2, none⟩ = some (.bool z.k.done) := hcl 2 _ rfl
  clear hcl
  rw [HD.out] at x2
  go_wp2_with fail
  go_ret
  exact RPost.same H.out B2.out
set_option maxHeartbeats 3200000 in
set_option maxRecDepth 100000 in
theorem rdone_now (h : RIs B w rb v l) (hw : wrong c r = false) (hl : l.length ≤ 1000) {i : Nat} {z : Kn} (hf : fnd l c = (i : Int)) (hz : l[i]? = some z) (hzc : z.c = c) (hBw : B ≤ w.heap.size) (hr : z.k.req = r) (hd : z.k.done = false) (hx : Names B w A x.n cx) : Calls Try.prog 15 #[ptr rb, .int .i64 c, .int .i64 r, vres x A cx] w (RPost B rb v w ((tOf l).set i (c, ⟨r, true, x⟩), 0)) := by
  have hu := Try.underlying29
  have hup := Try.underlying44
  have hut := Try.underlying47
  have huk := Try.underlying54
  obtain ⟨Av, cp, rfl⟩ := h.row.slice
  have H := Aside0.mk h
  have hi : i < l.length := (List.getElem?_eq_some_iff.1 hz).1
  have hi2 : (i : Int) < (l.length : Int) := by omega
  have b0 : decide ((i : Int) < 0) = false := decide_eq_false (by omega)
  have HX := Aside0.mk hz
  have HFnd := Aside0.mk hf
  have b1 : (z.k.req != r) = false := by simpa using hr
  have HD := Aside0.mk hd
  have N := Aside0.mk hx
  have HE := Aside0.mk (And.intro hzc hr)
  clear hf hz hr hd hx hzc
  clear h
  unfold ptr vres
  go_enter Try.func15, Try.ntmps15
  go_wp2_with fail
  refine (rwrong_calls c r _).mono ?_
  rintro e w1 ⟨rfl, rfl⟩
  rw [hw]
  have HF := Aside0.mk (find_calls (H.out.below (bresx w x A cx)) c hl)
  rw [HFnd.out] at HF
  unfold ptr at HF
  go_wp2_with fail
  refine HF.out.mono ?_
  rintro e w2 ⟨rfl, hb⟩
  have P := Aside0.mk (blk_below (blk_new w (.cells #[.int .i64 x.e, .string x.d, .int .i64 x.k, .int .i64 x.l, .int .i64 x.s, .slice A x.n.length cx] 29)) hb)
  have B2 := Aside0.mk ((bresx w x A cx).trans (hb.mono (bresx w x A cx).size))
  have c0 := (H.out.below B2.out).c0
  clear hb HF
  obtain ⟨g, rfl, hcl⟩ := (H.out.below B2.out).row.at_ HX.out
  have x1 : w2.cell? ⟨g, i * 9 + 1, none⟩ = some (.int .i64 z.k.req) := hcl 1 _ rfl
  have x2 : w2.cell? ⟨g, i * 9 + 2, none⟩ = some (.bool z.k.done) := hcl 2 _ rfl
  rw [HD.out] at x2
  have x3 : w2.cell? ⟨g, i * 9 + 3, none⟩ = some (.int .i64 z.k.res.e) := hcl 3 _ rfl
  have x4 : w2.cell? ⟨g, i * 9 + 4, none⟩ = some (.string z.k.res.d) := hcl 4 _ rfl
  have x5 : w2.cell? ⟨g, i * 9 + 5, none⟩ = some (.int .i64 z.k.res.k) := hcl 5 _ rfl
  have x6 : w2.cell? ⟨g, i * 9 + 6, none⟩ = some (.int .i64 z.k.res.l) := hcl 6 _ rfl
  have x7 : w2.cell? ⟨g, i * 9 + 7, none⟩ = some (.int .i64 z.k.res.s) := hcl 7 _ rfl
  have x8 : w2.cell? ⟨g, i * 9 + 8, none⟩ = some (.slice z.A z.k.res.n.length z.p) := hcl 8 _ rfl
  clear hcl
  have R2 := (H.out.below B2.out).row
  have hbg : B ≤ g := own_base R2.1 g rfl
  obtain ⟨cur, hgb⟩ := own_typed R2.1 g rfl
  have fg := blk_frozen hgb
  have hgr : g ≠ rb := fun e => by
    have h1 := (H.out.below B2.out).blk
    rw [e] at hgb
    rw [hgb] at h1
    simp at h1
  have hgw : g ≠ w.heap.size := fun e => by
    have h1 := own_lt H.out.row.1 g rfl
    omega
  have d0 := (blk_cell P.out 0).trans rfl
  have d1 := (blk_cell P.out 1).trans rfl
  have d2 := (blk_cell P.out 2).trans rfl
  have d3 := (blk_cell P.out 3).trans rfl
  have d4 := (blk_cell P.out 4).trans rfl
  have d5 := (blk_cell P.out 5).trans rfl
  have hgw' : w.heap.size ≠ g := fun e => hgw e.symm
  have hgr' : rb ≠ g := fun e => hgr e.symm
  obtain ⟨wf, hwf⟩ : ∃ wf, wf = ((((((((w2.setCell ⟨g, i * 9 + 2, none⟩ (.bool true)).setCell ⟨g, i * 9 + 3, none⟩ (.int .i64 x.e)).setCell ⟨g, i * 9 + 4, none⟩ (.string x.d)).setCell ⟨g, i * 9 + 5, none⟩ (.int .i64 x.k)).setCell ⟨g, i * 9 + 6, none⟩ (.int .i64 x.l)).setCell ⟨g, i * 9 + 7, none⟩ (.int .i64 x.s)).setCell ⟨g, i * 9 + 8, none⟩ (.slice A x.n.length cx))) := ⟨_, rfl⟩
  have hr := row_done R2 rfl HX.out hbg (N.out.below B2.out)
  have hfr : Fr w2 wf (fun k => k = g) := by rw [hwf]; exact fr_set7
  rw [← hwf] at hr
  have HR := Aside0.mk hr
  have HFr := Aside0.mk hfr
  have HWf := Aside0.mk hwf
  have HG := Aside0.mk (And.intro hbg (And.intro hgr hgb))
  clear hbg R2 hgb hr hfr hwf
  go_wp2_with fail
  go_region
  all_goals
    go_wp2_with fail
    go_ret
    simp only [Nat.add_assoc, Nat.reduceAdd]
    rw [← HWf.out]
    have hBd : Below wf.heap.size wf wf.drew := below_drew1 (Below.refl _ _)
    have hrb : wf.heap[rb]? = some (.cells #[.slice (some ⟨g, 0, none⟩) l.length cp] 47 (0, 0)) := by
      have h1 := (H.out.below B2.out).blk
      rw [HFr.out.block rb (blk_lt h1) (fun e => HG.out.2.1 e.symm)]
      exact h1
    refine ⟨rfl, .slice (some ⟨g, 0, none⟩) l.length cp, l.set i ⟨z.c, ⟨z.k.req, true, x⟩, A, cx⟩, ⟨blk_below hrb hBd, ?_, H.out.bd⟩, ?_, ?_, fun k hk => .inl hk⟩
    · exact HR.out.below hBd
    · unfold tOf
      rw [List.map_set]
      show (tOf l).set i (z.c, ⟨z.k.req, true, x⟩) = _
      rw [HE.out.1, HE.out.2]
      rfl
    · exact ((Fr.of_below B2.out _).trans HFr.out (fun k hk => .inl (.inr (by rw [hk]; rfl)))).trans (Fr.of_below hBd (fun _ => False)) (fun k hk => hk.elim)
theorem rdone_calls (h : RIs B w rb v l) (hBw : B ≤ w.heap.size) (hl : l.length ≤ 1000) (hx : Names B w A x.n cx) : Calls Try.prog 15 #[ptr rb, .int .i64 c, .int .i64 r, vres x A cx] w (RPost B rb v w (tDone (tOf l) c r x)) := by
  unfold tDone
  by_cases hw : wrong c r = true
  · rw [if_pos hw]; exact rdone_wrong h hw
  rw [if_neg hw]
  replace hw : wrong c r = false := by simpa using hw
  rcases fnd_cases l c with ⟨h1, h2⟩ | ⟨i, z, h1, h2, h3, h4, h5, h6⟩
  · rw [h2]; exact rdone_none h hw hl h1
  · rw [h5]
    dsimp only
    by_cases q1 : z.k.req = r
    · rw [if_pos q1]
      by_cases q2 : z.k.done = true
      · rw [if_pos q2]; exact rdone_again h hw hl h1 h2 q1 q2
      · rw [if_neg q2, h6]
        exact rdone_now h hw hl h1 h2 h3 hBw q1 (by simpa using q2) hx
    · rw [if_neg q1]; exact rdone_other h hw hl h1 h2 q1
end
end Go.Proofs.Ytjjbikpjkbdabaa.RTab
