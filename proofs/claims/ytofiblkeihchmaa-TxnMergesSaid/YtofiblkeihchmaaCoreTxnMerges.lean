/- The walk of the law TxnMerges. -/
import Derived.Test.YtofiblkeihchmaaTxnPure
import Derived.Test.YtofiblkeihchmaaTxnOpen
section
/- The document's answer: Right, With, Merge. -/
set_option linter.unusedVariables false
set_option linter.unusedSimpArgs false
namespace Go.Proofs.Ytofiblkeihchmaa.TxnS
open Go.Proofs.Ytofiblkeihchmaa.Keys Go.Proofs.Ytofiblkeihchmaa.Maps
def stepW (c : Ch) (st : List Ch × Bool) (x : Ch) : List Ch × Bool :=
  if st.2 = true then (if x.1 = c.1 then st else (st.1 ++ [x], true))
  else if x.1 < c.1 then (st.1 ++ [x], false)
  else if x.1 = c.1 then (st.1 ++ [c], true) else (st.1 ++ [c] ++ [x], true)
def stW (c : Ch) (l : List Ch) : List Ch × Bool := l.foldl (stepW c) ([], false)
def withL (l : List Ch) (c : Ch) : List Ch := if (stW c l).2 = true then (stW c l).1 else (stW c l).1 ++ [c]
theorem stW_take (c : Ch) (l : List Ch) (i : Nat) (h : i < l.length) : stW c (l.take (i + 1)) = stepW c (stW c (l.take i)) l[i] := by
  unfold stW
  rw [List.take_succ_eq_append_getElem h, List.foldl_append]
  rfl
theorem stW_len (c : Ch) (l : List Ch) : ∀ i, i ≤ l.length → (stW c (l.take i)).1.length ≤ i + 1 ∧ ((stW c (l.take i)).2 = false → (stW c (l.take i)).1.length ≤ i)
  | 0, _ => by simp [stW]
  | i + 1, h => by
    have ih := stW_len c l i (by omega)
    rw [stW_take c l i (by omega)]
    generalize stW c (l.take i) = st at ih ⊢
    obtain ⟨o, p⟩ := st
    unfold stepW
    dsimp only at ih ⊢
    cases p with
    | true =>
      rw [if_pos rfl]
      split
      · exact ⟨by have := ih.1; dsimp only; omega, fun h => by cases h⟩
      · exact ⟨by have := ih.1; simp; omega, fun h => by cases h⟩
    | false =>
      have := ih.2 rfl
      rw [if_neg (by simp)]
      split
      · exact ⟨by simp; omega, fun _ => by simp; omega⟩
      · split
        · exact ⟨by simp; omega, fun h => by cases h⟩
        · exact ⟨by simp; omega, fun h => by cases h⟩
/-- In sorted changes: what is before, the change, what is behind. -/
theorem fold_put (c : Ch) : ∀ (l : List Ch) (o : List Ch), l.foldl (stepW c) (o, true) = (o ++ l.filter (fun x => decide (x.1 ≠ c.1)), true)
  | [], o => by simp
  | x :: l, o => by
    have e : stepW c (o, true) x = (if x.1 = c.1 then (o, true) else (o ++ [x], true)) := by unfold stepW; rw [if_pos rfl]
    rw [List.foldl_cons, e]
    by_cases h : x.1 = c.1
    · rw [if_pos h, fold_put c l o, List.filter_cons_of_neg (by simp [h])]
    · rw [if_neg h, fold_put c l, List.filter_cons_of_pos (by simp [h]), List.append_assoc]; rfl
theorem with_says (c : Ch) : ∀ (l : List Ch) (o : List Ch), (let r := l.foldl (stepW c) (o, false); if r.2 = true then r.1 else r.1 ++ [c]) = o ++ l.takeWhile (fun x => decide (x.1 < c.1)) ++ [c] ++ (l.dropWhile (fun x => decide (x.1 < c.1))).filter (fun x => decide (x.1 ≠ c.1))
  | [], o => by simp
  | x :: l, o => by
    by_cases h1 : x.1 < c.1
    · have e : stepW c (o, false) x = (o ++ [x], false) := by unfold stepW; rw [if_neg (by simp), if_pos h1]
      rw [List.foldl_cons, e, with_says c l (o ++ [x]), List.takeWhile_cons_of_pos (by simp [h1]), List.dropWhile_cons_of_pos (by simp [h1])]
      simp
    · rw [List.takeWhile_cons_of_neg (by simp [h1]), List.dropWhile_cons_of_neg (by simp [h1])]
      by_cases h2 : x.1 = c.1
      · have e : stepW c (o, false) x = (o ++ [c], true) := by unfold stepW; rw [if_neg (by simp), if_neg h1, if_pos h2]
        rw [List.foldl_cons, e, fold_put]
        dsimp only
        rw [if_pos rfl, List.filter_cons_of_neg (by simp [h2])]
        simp
      · have e : stepW c (o, false) x = (o ++ [c] ++ [x], true) := by unfold stepW; rw [if_neg (by simp), if_neg h1, if_neg h2]
        rw [List.foldl_cons, e, fold_put]
        dsimp only
        rw [if_pos rfl, List.filter_cons_of_pos (by simp [h2])]
        simp
theorem withL_says (l : List Ch) (c : Ch) : withL l c = l.takeWhile (fun x => decide (x.1 < c.1)) ++ [c] ++ (l.dropWhile (fun x => decide (x.1 < c.1))).filter (fun x => decide (x.1 ≠ c.1)) := by
  have := with_says c l []
  rw [List.nil_append] at this
  exact this
theorem with_law {l : List Ch} {c : Ch} (h : rightL (-1) l) (hc : -1 < c.1 ∧ c.1 < 1024 ∧ c.2.size = 128) : rightL (-1) (withL l c) ∧ allF none0 (withL l c) = putF (allF none0 l) c := by
  have hs := withL_says l c
  have hlt := rightL_lt l (-1) h
  have hall := rightL_all (-1) l h
  have hsplit := List.takeWhile_append_dropWhile (p := fun x : Ch => decide (x.1 < c.1)) (l := l)
  generalize ht : l.takeWhile (fun x => decide (x.1 < c.1)) = t at hs hsplit
  generalize hd : l.dropWhile (fun x => decide (x.1 < c.1)) = d at hs hsplit
  have htc : ∀ x ∈ t, x.1 < c.1 := fun x hx => by
    rw [← ht] at hx
    have := List.all_takeWhile (l := l) (p := fun x : Ch => decide (x.1 < c.1))
    rw [List.all_eq_true] at this
    simpa using this x hx
  subst hsplit
  rw [List.map_append, List.pairwise_append] at hlt
  obtain ⟨p1, p2, p3⟩ := hlt
  have hdc : ∀ x ∈ d, c.1 ≤ x.1 := fun x hx => by
    cases d with
    | nil => simp at hx
    | cons y d =>
      have hy : ¬ y.1 < c.1 := by
        have := List.head?_dropWhile_not (fun x : Ch => decide (x.1 < c.1)) (t ++ y :: d)
        rw [hd] at this
        simpa using this
      rcases List.mem_cons.1 hx with rfl | hx
      · omega
      · rw [List.map_cons, List.pairwise_cons] at p2
        have := p2.1 x.1 (List.mem_map_of_mem hx)
        omega
  have hfd : ∀ x ∈ d.filter (fun x => decide (x.1 ≠ c.1)), x ∈ d ∧ c.1 < x.1 := fun x hx => by
    rw [List.mem_filter] at hx
    have h2 : x.1 ≠ c.1 := by simpa using hx.2
    have := hdc x hx.1
    exact ⟨hx.1, by omega⟩
  have hpw : ((withL (t ++ d) c).map Prod.fst).Pairwise (· < ·) := by
    rw [hs, List.map_append, List.map_append, List.append_assoc, List.pairwise_append]
    refine ⟨p1, ?_, ?_⟩
    · show (c.1 :: (d.filter (fun x => decide (x.1 ≠ c.1))).map Prod.fst).Pairwise (· < ·)
      refine List.Pairwise.cons (fun x hx => ?_) (p2.sublist (List.filter_sublist.map _))
      obtain ⟨y, hy, rfl⟩ := List.mem_map.1 hx
      exact (hfd y hy).2
    · intro x hx y hy
      obtain ⟨q, hq, rfl⟩ := List.mem_map.1 hx
      have h1 := htc q hq
      rcases List.mem_append.1 hy with hy | hy
      · have : y = c.1 := by simpa using hy
        omega
      · obtain ⟨r, hr, rfl⟩ := List.mem_map.1 hy
        have := (hfd r hr).2
        omega
  have hmem : ∀ x, x ∈ withL (t ++ d) c → x = c ∨ (x ∈ t ++ d ∧ x.1 ≠ c.1) := fun x hx => by
    rw [hs] at hx
    rcases List.mem_append.1 hx with hx | hx
    · rcases List.mem_append.1 hx with hx | hx
      · exact .inr ⟨List.mem_append.2 (.inl hx), by have := htc x hx; omega⟩
      · exact .inl (by simpa using hx)
    · have := hfd x hx
      exact .inr ⟨List.mem_append.2 (.inr this.1), by omega⟩
  have hmem2 : ∀ x, x ∈ t ++ d → x.1 ≠ c.1 → x ∈ withL (t ++ d) c := fun x hx hne => by
    rw [hs]
    rcases List.mem_append.1 hx with hx | hx
    · exact List.mem_append.2 (.inl (List.mem_append.2 (.inl hx)))
    · exact List.mem_append.2 (.inr (List.mem_filter.2 ⟨hx, by simpa using hne⟩))
  have hcm : c ∈ withL (t ++ d) c := by
    rw [hs]
    exact List.mem_append.2 (.inl (List.mem_append.2 (.inr (List.mem_singleton.2 rfl))))
  have hn : ((withL (t ++ d) c).map Prod.fst).Nodup := hpw.imp fun h => Int.ne_of_lt h
  have hn0 : ((t ++ d).map Prod.fst).Nodup := (rightL_lt _ (-1) h).imp fun h => Int.ne_of_lt h
  refine ⟨rightL_of (-1) _ hpw fun x hx => ?_, ?_⟩
  · rcases hmem x hx with rfl | ⟨hx, _⟩
    · exact hc
    · exact hall x hx
  · funext k
    unfold putF
    by_cases hk : c.1 = k
    · rw [if_pos hk]
      exact allF_mem _ _ k c.2 hn (by rw [← hk]; exact hcm)
    · rw [if_neg hk]
      by_cases hin : k ∈ (t ++ d).map Prod.fst
      · obtain ⟨x, hx, rfl⟩ := List.mem_map.1 hin
        rw [allF_mem _ none0 x.1 x.2 hn (hmem2 x hx (fun e => hk e.symm)), allF_mem _ none0 x.1 x.2 hn0 hx]
      · rw [allF_not _ _ _ hin, allF_not]
        intro hin2
        obtain ⟨x, hx, rfl⟩ := List.mem_map.1 hin2
        rcases hmem x hx with rfl | ⟨hx2, _⟩
        · exact hk rfl
        · exact hin (List.mem_map_of_mem hx2)
def withAll (a b : List Ch) : List Ch := b.foldl withL a
theorem withAll_take (a b : List Ch) (i : Nat) (h : i < b.length) : withAll a (b.take (i + 1)) = withL (withAll a (b.take i)) b[i] := by
  unfold withAll
  rw [List.take_succ_eq_append_getElem h, List.foldl_append]
  rfl
theorem withAll_law : ∀ (b a : List Ch), rightL (-1) a → (∀ c ∈ b, -1 < c.1 ∧ c.1 < 1024 ∧ c.2.size = 128) → rightL (-1) (withAll a b) ∧ allF none0 (withAll a b) = allF (allF none0 a) b
  | [], a, h, _ => ⟨h, rfl⟩
  | c :: b, a, h, hb => by
    obtain ⟨h1, h2⟩ := with_law h (hb c (List.mem_cons_self ..))
    obtain ⟨h3, h4⟩ := withAll_law b (withL a c) h1 (fun d hd => hb d (List.mem_cons_of_mem _ hd))
    refine ⟨h3, ?_⟩
    have e : withAll a (c :: b) = withAll (withL a c) b := rfl
    rw [e, h4, h2]
    rfl
theorem withAll_mer {a b : List Ch} (ha : right a) (hb : right b) : withAll a b = listF (merF a b) := by
  obtain ⟨h1, h2⟩ := withAll_law b a ha.1 (rightL_all (-1) b hb.1)
  rw [← listF_allF h1, h2]
  rfl
end Go.Proofs.Ytofiblkeihchmaa.TxnS
end

section
/- The document's answer, walked: Right, With, Merge. -/
set_option linter.unusedVariables false
set_option linter.unusedSimpArgs false
namespace Go.Proofs.Ytofiblkeihchmaa.Txn
open Go.RowKit Go.Proofs.YtofiblkeihchmaaW.PrintWords Go.Proofs.YtofiblkeihchmaaW.PrintLast Go.Proofs.YtofiblkeihchmaaW.PrintMore Go.Proofs.Ytofiblkeihchmaa.TxnS
set_option maxHeartbeats 3200000 in
set_option maxRecDepth 100000 in
theorem right_calls (l : List Ch) (A : Option Addr) (c : Nat) (w : World) (h : Chs w A l) (hl : l.length ≤ 1125899906842624) : Calls Try.prog 11 #[.slice A l.length c] w fun e w' => e = .returned (.bool (decide (right l))) ∧ Below w.heap.size w w' := by
  have hu := Try.underlying39
  have H := Aside0.mk h
  clear h
  by_cases g48 : 48 < l.length
  · have q : decide (48 < l.length) = true := decide_eq_true g48
    have N2 : Aside0 (decide (right l) = false) := ⟨decide_eq_false (fun hh => by have := hh.2; omega)⟩
    go_enter Try.func11, Try.ntmps11
    go_wp2_with fail
    go_ret
    exact ⟨by rw [N2.out]; rfl, Below.refl _ _⟩
  · have q : decide (48 < l.length) = false := decide_eq_false g48
    go_enter Try.func11, Try.ntmps11
    go_wp2_with fail
    go_loopw [3, 11] (fun v3 v11 wr => ∃ i : Nat, i ≤ l.length ∧ v11 = .int .i64 (i : Int) ∧ v3 = .int .i64 (lastAt l i) ∧ Aside0 (rightL (-1) l ↔ rightL (lastAt l i) (l.drop i)) ∧ Aside0 (Below w.heap.size w wr)) (fun _ x _ => l.length - (intOf x).toNat)
    case atStart => exact ⟨0, by omega, rfl, rfl, ⟨Iff.rfl⟩, ⟨Below.refl _ _⟩⟩
    case round =>
      obtain ⟨i, hi, rfl, rfl, HR, HB⟩ := hrel
      by_cases hlt : i < l.length
      · obtain ⟨ad, rfl, e0, e1⟩ := (H.out.below HB.out) i hlt
        have hs := rightL_step l i hlt
        have hl1 := lastAt_succ l i hlt
        generalize l[i] = x at e0 e1 hs hl1
        obtain ⟨a, s⟩ := x
        have HS := Aside0.mk hs
        have HL1 := Aside0.mk hl1
        clear hs hl1
        dsimp only at e0 e1
        generalize lastAt l i = last at HR HS ⊢
        have P1 := Aside0.mk (blk_new wr (.cells #[.int .i64 a, .string s] 39))
        have B1 := Aside0.mk (HB.out.trans ((below_alloc (Below.refl wr.heap.size wr) (.cells #[.int .i64 a, .string s] 39)).mono HB.out.size))
        go_upto_region 7 with fail
        generalize hW : wr.alloc (.cells #[.int .i64 a, .string s] 39) = W1 at P1 B1 ⊢
        clear hW e0 e1
        have p0 := (blk_cell P1.out 0).trans (Eq.refl (some (Value.int .i64 a)))
        have p1 := (blk_cell P1.out 1).trans (Eq.refl (some (Value.string s)))
        have No : Aside0 (¬ (last < a ∧ a < 1024 ∧ s.size = 128) → decide (right l) = false) := ⟨fun hn => decide_eq_false (fun hr => by
          have h2 := HS.out.1 (HR.out.1 hr.1)
          exact hn ⟨h2.1, h2.2.1, h2.2.2.1⟩)⟩
        by_cases g1 : a ≤ last
        · have q1 : decide (a ≤ last) = true := decide_eq_true g1
          have N2 := Aside0.mk (No.out (fun hh => by have := hh.1; omega))
          go_wp2_with fail
          go_ret
          exact ⟨by rw [N2.out]; rfl, B1.out⟩
        · have q1 : decide (a ≤ last) = false := decide_eq_false g1
          by_cases g2 : a ≥ 1024
          · have q2 : decide (a ≥ 1024) = true := decide_eq_true g2
            have N2 := Aside0.mk (No.out (fun hh => by have := hh.2.1; omega))
            go_wp2_with fail
            go_ret
            exact ⟨by rw [N2.out]; rfl, B1.out⟩
          · have q2 : decide (a ≥ 1024) = false := decide_eq_false g2
            by_cases g3 : s.size = 128
            · have q3 : ((s.size : Int) != 128) = false := by simp; omega
              have N3 : Aside0 (rightL (-1) l ↔ rightL (lastAt l (i + 1)) (l.drop (i + 1))) := ⟨HR.out.trans (HS.out.trans ⟨fun hh => hh.2.2.2, fun hh => ⟨show last < a by omega, show a < 1024 by omega, g3, hh⟩⟩)⟩
              clear g3
              go_wp2_with fail
              go_roundw
              case rel => exact ⟨i + 1, by omega, by simp, by rw [HL1.out], N3, B1⟩
              case measure => simp [intOf]; omega
            · have q3 : ((s.size : Int) != 128) = true := by simp; omega
              have N2 := Aside0.mk (No.out (fun hh => g3 hh.2.2))
              clear g3
              go_wp2_with fail
              go_ret
              exact ⟨by rw [N2.out]; rfl, B1.out⟩
      · obtain rfl : i = l.length := by omega
        have hR := HR.out
        rw [List.drop_length] at hR
        have N2 : Aside0 (decide (right l) = true) := ⟨decide_eq_true ⟨hR.2 trivial, by omega⟩⟩
        clear hR HR
        go_wp2_with fail
        go_ret
        exact ⟨by rw [N2.out]; rfl, HB.out⟩
set_option maxHeartbeats 6400000 in
set_option maxRecDepth 100000 in
theorem with_calls (l : List Ch) (x : Ch) (A : Option Addr) (c : Nat) (w : World) (h : Chs w A l) (hl : l.length ≤ 1000) :
    Calls Try.prog 19 #[.slice A l.length c, .agg #[.int .i64 x.1, .string x.2]] w fun e w' => ∃ v, e = .returned v ∧ w'.ownsRow w.heap.size 39 2 v (withL l x).length (cv (withL l x)) ∧ Below w.heap.size w w' := by
  have hu := Try.underlying39
  obtain ⟨xa, xs⟩ := x
  dsimp only
  have P0 := Aside0.mk (blk_new w (.cells #[.int .i64 xa, .string xs] 39))
  have B0 := Aside0.mk (below_alloc (Below.refl w.heap.size w) (.cells #[.int .i64 xa, .string xs] 39))
  have H := Aside0.mk (h.below B0.out)
  clear h
  go_enter Try.func19, Try.ntmps19
  go_upto_region 4 with fail
  generalize hW0 : w.alloc (.cells #[.int .i64 xa, .string xs] 39) = W0 at P0 B0 H ⊢
  have HB : Aside0 (w.heap.size < W0.heap.size) := ⟨by rw [← hW0]; simp⟩
  clear hW0
  go_loopw [5, 6, 11] (fun v5 v6 v11 wr => ∃ i : Nat, i ≤ l.length ∧ v11 = .int .i64 (i : Int) ∧ v6 = .bool (stW (xa, xs) (l.take i)).2 ∧ Aside0 (wr.ownsRow W0.heap.size 39 2 v5 (stW (xa, xs) (l.take i)).1.length (cv (stW (xa, xs) (l.take i)).1)) ∧ Aside0 (Below W0.heap.size W0 wr)) (fun _ _ x _ => l.length - (intOf x).toNat)
  case atStart => exact ⟨0, by omega, rfl, rfl, ⟨own_nil _ _ _ _⟩, ⟨Below.refl _ _⟩⟩
  case round =>
    obtain ⟨i, hi, rfl, rfl, HR, HBr⟩ := hrel
    have P0r := Aside0.mk ((HBr.out.block w.heap.size HB.out).trans P0.out)
    have hlenb := stW_len (xa, xs) l i hi
    by_cases hlt : i < l.length
    · obtain ⟨ad, rfl, e0, e1⟩ := (H.out.below HBr.out) i hlt
      have ht := stW_take (xa, xs) l i hlt
      generalize l[i] = y at e0 e1 ht
      obtain ⟨a, s⟩ := y
      generalize stW (xa, xs) (l.take i) = st at HR ht hlenb ⊢
      obtain ⟨o, put⟩ := st
      dsimp only at e0 e1 HR hlenb ⊢
      have hol : o.length ≤ 1001 := by have := hlenb.1; omega
      have HT := Aside0.mk ht
      clear ht hlenb
      have P1 := Aside0.mk (blk_new wr (.cells #[.int .i64 a, .string s] 39))
      have BX := Aside0.mk (below_alloc (Below.refl wr.heap.size wr) (.cells #[.int .i64 a, .string s] 39))
      have HOwn := Aside0.mk (fun k hk => own_lt HR.out k hk)
      go_upto_region 6 with fail
      generalize hW : wr.alloc (.cells #[.int .i64 a, .string s] 39) = W1 at P1 BX ⊢
      clear hW e0 e1
      have B1 := Aside0.mk (HBr.out.trans (BX.out.mono HBr.out.size))
      have R1 := Aside0.mk (pw_own_below HR.out BX.out)
      have P01 := Aside0.mk ((BX.out.block w.heap.size (Nat.lt_of_lt_of_le HB.out HBr.out.size)).trans P0r.out)
      have p0 := (blk_cell P1.out 0).trans (Eq.refl (some (Value.int .i64 a)))
      have p1 := (blk_cell P1.out 1).trans (Eq.refl (some (Value.string s)))
      have c0 := (blk_cell P01.out 0).trans (Eq.refl (some (Value.int .i64 xa)))
      have c1 := (blk_cell P01.out 1).trans (Eq.refl (some (Value.string xs)))
      have hml : (o.length + 1) * 24 ≤ 140737488355328 := by omega
      clear HR HBr BX P0r
      cases put with
      | true =>
        by_cases g : a = xa
        · have q : (a != xa) = false := by simp [g]
          have HT2 : Aside0 (stW (xa, xs) (l.take (i + 1)) = (o, true)) := ⟨by rw [HT.out]; unfold stepW; rw [if_pos rfl, if_pos g]⟩
          clear g
          go_wp2_with fail
          go_roundw
          case rel => exact ⟨i + 1, by omega, by simp, by rw [HT2.out], ⟨by rw [HT2.out]; exact R1.out⟩, B1⟩
          case measure => simp [intOf]; omega
        · have q : (a != xa) = true := by simp [g]
          have HT2 : Aside0 (stW (xa, xs) (l.take (i + 1)) = (o ++ [(a, s)], true)) := ⟨by rw [HT.out]; unfold stepW; rw [if_pos rfl, if_neg g]⟩
          clear g
          go_wp2_with (at_builtin; refine print_append_cells W0.heap.size rfl (.tmp 33) (.tmp 35) 22 39 (.agg #[.int .i64 0, .string ⟨#[]⟩]) 2 24 rfl Try.underlying22 infoCh rfl (by decide) (by decide) _ _ _ [.int .i64 a, .string s] rfl rfl rfl (by intro u hu; simp at hu; rcases hu with rfl | rfl <;> rfl) R1.out B1.out B1.out.size hml ?_; intro v8 w8 hr8 hb8 _ _; have R8 := Aside0.mk hr8; have B8 := Aside0.mk hb8; clear hr8 hb8)
          go_roundw
          case rel => exact ⟨i + 1, by omega, by simp, by rw [HT2.out], ⟨by rw [HT2.out]; dsimp only; rw [List.length_append, cv_append]; exact R8.out⟩, B8⟩
          case measure => simp [intOf]; omega
      | false =>
        by_cases g1 : a < xa
        · have q1 : decide (a ≥ xa) = false := decide_eq_false (by omega)
          have q : (a != xa) = true := by simp; omega
          have HT2 : Aside0 (stW (xa, xs) (l.take (i + 1)) = (o ++ [(a, s)], false)) := ⟨by rw [HT.out]; unfold stepW; rw [if_neg (by simp), if_pos g1]⟩
          clear g1
          go_wp2_with (at_builtin; refine print_append_cells W0.heap.size rfl (.tmp 33) (.tmp 35) 22 39 (.agg #[.int .i64 0, .string ⟨#[]⟩]) 2 24 rfl Try.underlying22 infoCh rfl (by decide) (by decide) _ _ _ [.int .i64 a, .string s] rfl rfl rfl (by intro u hu; simp at hu; rcases hu with rfl | rfl <;> rfl) R1.out B1.out B1.out.size hml ?_; intro v8 w8 hr8 hb8 _ _; have R8 := Aside0.mk hr8; have B8 := Aside0.mk hb8; clear hr8 hb8)
          go_roundw
          case rel => exact ⟨i + 1, by omega, by simp, by rw [HT2.out], ⟨by rw [HT2.out]; dsimp only; rw [List.length_append, cv_append]; exact R8.out⟩, B8⟩
          case measure => simp [intOf]; omega
        · have q1 : decide (a ≥ xa) = true := decide_eq_true (by omega)
          have HZ : Aside0 (∀ u w8, W1.grownBy w8 (Value.ownBlock u) → u = u5 → w8.heap[wr.heap.size]? = some (.cells #[.int .i64 a, .string s] 39 (0, 0)) ∧ w8.heap[w.heap.size]? = some (.cells #[.int .i64 xa, .string xs] 39 (0, 0))) := ⟨fun u w8 hg e => by
            subst e
            refine ⟨(hg.block _ (blk_lt P1.out) (fun hk => ?_)).trans P1.out, (hg.block _ (blk_lt P01.out) (fun hk => ?_)).trans P01.out⟩
            · have := HOwn.out _ hk.symm; omega
            · have := own_base R1.out _ hk.symm; have := HB.out; omega⟩
          generalize wr.heap.size = z at P1 HZ p0 p1 ⊢
          by_cases g : a = xa
          · have q : (a != xa) = false := by simp [g]
            have HT2 : Aside0 (stW (xa, xs) (l.take (i + 1)) = (o ++ [(xa, xs)], true)) := ⟨by rw [HT.out]; unfold stepW; rw [if_neg (by simp), if_neg g1, if_pos g]⟩
            clear g g1
            go_wp2_with (at_builtin; refine print_append_cells W0.heap.size rfl (.tmp 24) (.tmp 26) 22 39 (.agg #[.int .i64 0, .string ⟨#[]⟩]) 2 24 rfl Try.underlying22 infoCh rfl (by decide) (by decide) _ _ _ [.int .i64 xa, .string xs] rfl rfl rfl (by intro u hu; simp at hu; rcases hu with rfl | rfl <;> rfl) R1.out B1.out B1.out.size hml ?_; intro v8 w8 hr8 hb8 hg8 _; have R8 := Aside0.mk hr8; have B8 := Aside0.mk hb8; obtain ⟨k1, k2⟩ := HZ.out _ _ hg8 rfl; have d0 := (blk_cell k1 0).trans (Eq.refl (some (Value.int .i64 a))); have d1 := (blk_cell k2 0).trans (Eq.refl (some (Value.int .i64 xa))); clear hr8 hb8 hg8 k1 k2)
            go_roundw
            case rel => exact ⟨i + 1, by omega, by simp, by rw [HT2.out], ⟨by rw [HT2.out]; dsimp only; rw [List.length_append, cv_append]; exact R8.out⟩, B8⟩
            case measure => simp [intOf]; omega
          · have q : (a != xa) = true := by simp [g]
            have HT2 : Aside0 (stW (xa, xs) (l.take (i + 1)) = (o ++ [(xa, xs)] ++ [(a, s)], true)) := ⟨by rw [HT.out]; unfold stepW; rw [if_neg (by simp), if_neg g1, if_neg g]⟩
            have hml2 : (o.length + 1 + 1) * 24 ≤ 140737488355328 := by clear hml q q1 g g1; omega
            clear g g1
            go_upto_region 8 with (at_builtin; refine print_append_cells W0.heap.size rfl (.tmp 24) (.tmp 26) 22 39 (.agg #[.int .i64 0, .string ⟨#[]⟩]) 2 24 rfl Try.underlying22 infoCh rfl (by decide) (by decide) _ _ _ [.int .i64 xa, .string xs] rfl rfl rfl (by intro u hu; simp at hu; rcases hu with rfl | rfl <;> rfl) R1.out B1.out B1.out.size hml ?_; intro v8 w8 hr8 hb8 hg8 _; have R8 := Aside0.mk hr8; have B8 := Aside0.mk hb8; obtain ⟨k1, k2⟩ := HZ.out _ _ hg8 rfl; have d0 := (blk_cell k1 0).trans (Eq.refl (some (Value.int .i64 a))); have d2 := (blk_cell k1 1).trans (Eq.refl (some (Value.string s))); have d1 := (blk_cell k2 0).trans (Eq.refl (some (Value.int .i64 xa))); clear hr8 hb8 hg8 k1 k2)
            go_wp2_with (at_builtin; refine print_append_cells W0.heap.size rfl (.tmp 33) (.tmp 35) 22 39 (.agg #[.int .i64 0, .string ⟨#[]⟩]) 2 24 rfl Try.underlying22 infoCh rfl (by decide) (by decide) _ _ _ [.int .i64 a, .string s] rfl rfl rfl (by intro u hu; simp at hu; rcases hu with rfl | rfl <;> rfl) R8.out B8.out B8.out.size hml2 ?_; intro v9 w9 hr9 hb9 _ _; have R9 := Aside0.mk hr9; have B9 := Aside0.mk hb9; clear hr9 hb9)
            go_roundw
            case rel => exact ⟨i + 1, by omega, by simp, by rw [HT2.out], ⟨by rw [HT2.out]; dsimp only; rw [List.length_append, List.length_append, cv_append, cv_append]; exact R9.out⟩, B9⟩
            case measure => simp [intOf]; omega
    · obtain rfl : i = l.length := by omega
      rw [List.take_length] at HR hlenb ⊢
      have hw : withL l (xa, xs) = if (stW (xa, xs) l).2 = true then (stW (xa, xs) l).1 else (stW (xa, xs) l).1 ++ [(xa, xs)] := rfl
      generalize stW (xa, xs) l = st at HR hlenb hw ⊢
      obtain ⟨o, put⟩ := st
      dsimp only at HR hlenb hw ⊢
      have HWt := Aside0.mk hw
      clear hw
      have hol : o.length ≤ 1001 := by have := hlenb.1; omega
      clear hlenb
      have toW : ∀ (u : Value) (w9 : World) (n : Nat) (cs : List Value), w9.ownsRow W0.heap.size 39 2 u n cs → w9.ownsRow w.heap.size 39 2 u n cs := fun u w9 n cs hr => ⟨hr.1, by
        rcases hr.2 with hh | ⟨g, cap, cur, rfl, hb', hrest⟩
        · exact .inl hh
        · exact .inr ⟨g, cap, cur, rfl, Nat.le_trans (Nat.le_of_lt HB.out) hb', hrest⟩⟩
      have ToW := Aside0.mk toW
      clear toW
      cases put with
      | true =>
        have HW2 : Aside0 (withL l (xa, xs) = o) := ⟨by rw [HWt.out, if_pos rfl]⟩
        go_wp2_with fail
        go_ret
        exact ⟨_, rfl, by rw [HW2.out]; exact ToW.out _ _ _ _ HR.out, B0.out.trans (HBr.out.mono (Nat.le_of_lt HB.out))⟩
      | false =>
        have HW2 : Aside0 (withL l (xa, xs) = o ++ [(xa, xs)]) := ⟨by rw [HWt.out, if_neg (by simp)]⟩
        have c0 := (blk_cell P0r.out 0).trans (Eq.refl (some (Value.int .i64 xa)))
        have c1 := (blk_cell P0r.out 1).trans (Eq.refl (some (Value.string xs)))
        have hml : (o.length + 1) * 24 ≤ 140737488355328 := by omega
        go_wp2_with (at_builtin; refine print_append_cells W0.heap.size rfl (.tmp 40) (.tmp 42) 22 39 (.agg #[.int .i64 0, .string ⟨#[]⟩]) 2 24 rfl Try.underlying22 infoCh rfl (by decide) (by decide) _ _ _ [.int .i64 xa, .string xs] rfl rfl rfl (by intro u hu; simp at hu; rcases hu with rfl | rfl <;> rfl) HR.out HBr.out HBr.out.size hml ?_; intro v8 w8 hr8 hb8 _ _; have R8 := Aside0.mk hr8; have B8 := Aside0.mk hb8; clear hr8 hb8)
        go_ret
        exact ⟨_, rfl, by rw [HW2.out, List.length_append, cv_append]; exact ToW.out _ _ _ _ R8.out, B0.out.trans (B8.out.mono (Nat.le_of_lt HB.out))⟩
end Go.Proofs.Ytofiblkeihchmaa.Txn
end

section
/- The walk of the law TxnMerges. -/
set_option linter.unusedVariables false
set_option linter.unusedSimpArgs false
namespace Go.Proofs.Ytofiblkeihchmaa.TxnS
theorem withL_len (l : List Ch) (c : Ch) : (withL l c).length ≤ l.length + 1 := by
  have h := stW_len c l l.length (Nat.le_refl _)
  rw [List.take_length] at h
  unfold withL
  by_cases hp : (stW c l).2 = true
  · rw [if_pos hp]; exact h.1
  · rw [if_neg hp]
    have := h.2 (by simpa using hp)
    simp; omega
theorem withAll_len : ∀ (b a : List Ch), (withAll a b).length ≤ a.length + b.length
  | [], a => Nat.le_refl _
  | c :: b, a => by
    have e : withAll a (c :: b) = withAll (withL a c) b := rfl
    have h1 := withAll_len b (withL a c)
    have h2 := withL_len a c
    rw [e, List.length_cons]
    omega
end Go.Proofs.Ytofiblkeihchmaa.TxnS
namespace Go.Proofs.Ytofiblkeihchmaa.Txn
open Go.RowKit Go.Proofs.YtofiblkeihchmaaW.PrintWords Go.Proofs.YtofiblkeihchmaaW.PrintLast Go.Proofs.YtofiblkeihchmaaW.PrintMore Go.Proofs.Ytofiblkeihchmaa.TxnS
def RmPost (w : World) (l : List Ch) (r : Int) (e : Ending) (w' : World) : Prop :=
  ∃ X cx, e = .returned (.tuple #[.slice X l.length cx, .int .i64 r]) ∧ Chs w' X l ∧ Below w.heap.size w w'
set_option maxHeartbeats 3200000 in
set_option maxRecDepth 100000 in
theorem rmerge_no (a b : List Ch) (A B : Option Addr) (c c' : Nat) (w : World) (ha : Chs w A a) (hb : Chs w B b) (hl1 : a.length ≤ 1125899906842624) (hl2 : b.length ≤ 1125899906842624) (hn : ¬ (right a ∧ right b)) :
    Calls Try.prog 9 #[.slice A a.length c, .slice B b.length c'] w (RmPost w [] 70) := by
  have HA := Aside0.mk (right_calls a A c w ha hl1)
  have HB := Aside0.mk (fun w1 (h : Below w.heap.size w w1) => right_calls b B c' w1 (hb.below h) hl2)
  by_cases h1 : right a
  · have h2 : ¬ right b := fun h => hn ⟨h1, h⟩
    rw [decide_eq_true h1] at HA
    rw [decide_eq_false h2] at HB
    clear ha hb hn h1 h2
    go_enter Try.func9, Try.ntmps9
    go_wp2_with fail
    refine HA.out.mono ?_
    rintro e w1 ⟨rfl, hB⟩
    have B1 := Aside0.mk hB
    clear hB
    go_wp2_with fail
    refine (HB.out _ B1.out).mono ?_
    rintro e w2 ⟨rfl, hB⟩
    have B2 := Aside0.mk (B1.out.trans (hB.mono B1.out.size))
    clear hB
    go_wp2_with fail
    go_ret2
    exact ⟨none, 0, rfl, Chs.nil _ _, B2.out⟩
  · rw [decide_eq_false h1] at HA
    clear ha hb hn h1
    go_enter Try.func9, Try.ntmps9
    go_wp2_with fail
    refine HA.out.mono ?_
    rintro e w1 ⟨rfl, hB⟩
    have B1 := Aside0.mk hB
    clear hB
    go_wp2_with fail
    go_ret2
    exact ⟨none, 0, rfl, Chs.nil _ _, B1.out⟩
set_option maxHeartbeats 3200000 in
set_option maxRecDepth 100000 in
theorem rmerge_yes (a b : List Ch) (A B : Option Addr) (c c' : Nat) (w : World) (ha : Chs w A a) (hb : Chs w B b) (hra : right a) (hrb : right b) :
    Calls Try.prog 9 #[.slice A a.length c, .slice B b.length c'] w (RmPost w (merS a b).1 (merS a b).2) := by
  have hu := Try.underlying39
  have hla : a.length ≤ 48 := hra.2
  have hlb : b.length ≤ 48 := hrb.2
  have HA := Aside0.mk (right_calls a A c w ha (by omega))
  have HB := Aside0.mk (fun w1 (h : Below w.heap.size w w1) => right_calls b B c' w1 (hb.below h) (by omega))
  rw [decide_eq_true hra] at HA
  rw [decide_eq_true hrb] at HB
  have HCA := Aside0.mk ha
  have HCB := Aside0.mk hb
  have HRes : Aside0 (merS a b = if 48 < (withAll a b).length then ([], 2) else (withAll a b, 0)) := ⟨by rw [merS_of hra hrb, withAll_mer hra hrb]⟩
  clear ha hb hra hrb
  go_enter Try.func9, Try.ntmps9
  go_wp2_with fail
  refine HA.out.mono ?_
  rintro e w1 ⟨rfl, hB⟩
  have B1 := Aside0.mk hB
  clear hB
  go_wp2_with fail
  refine (HB.out _ B1.out).mono ?_
  rintro e w2 ⟨rfl, hB⟩
  have B2 := Aside0.mk (B1.out.trans (hB.mono B1.out.size))
  clear hB HA HB B1
  go_wp2_with fail
  go_loopw [6, 20] (fun v6 v20 wr => ∃ (i : Nat) (X : Option Addr) (cx : Nat), i ≤ b.length ∧ v20 = .int .i64 (i : Int) ∧ v6 = .slice X (withAll a (b.take i)).length cx ∧ Aside0 (Chs wr X (withAll a (b.take i))) ∧ Aside0 (Below w.heap.size w wr)) (fun _ x _ => b.length - (intOf x).toNat)
  case atStart => exact ⟨0, A, c, by omega, rfl, rfl, ⟨HCA.out.below B2.out⟩, B2⟩
  case round =>
    clear B2
    obtain ⟨i, X, cx, hi, rfl, rfl, HX, HBr⟩ := hrel
    by_cases hlt : i < b.length
    · obtain ⟨ad, rfl, e0, e1⟩ := (HCB.out.below HBr.out) i hlt
      have ht := withAll_take a b i hlt
      have hlen := withAll_len (b.take i) a
      rw [List.length_take] at hlen
      generalize b[i] = y at e0 e1 ht
      obtain ⟨k, s⟩ := y
      generalize withAll a (b.take i) = o at HX ht hlen ⊢
      have HT := Aside0.mk ht
      clear ht
      dsimp only at e0 e1
      have hol : o.length ≤ 96 := by omega
      have P1 := Aside0.mk (blk_new wr (.cells #[.int .i64 k, .string s] 39))
      have BX := Aside0.mk (below_alloc (Below.refl wr.heap.size wr) (.cells #[.int .i64 k, .string s] 39))
      go_upto_region 7 with fail
      generalize hW : wr.alloc (.cells #[.int .i64 k, .string s] 39) = W1 at P1 BX ⊢
      clear hW e0 e1 hlen
      have p0 := (blk_cell P1.out 0).trans (Eq.refl (some (Value.int .i64 k)))
      have p1 := (blk_cell P1.out 1).trans (Eq.refl (some (Value.string s)))
      have B1 := Aside0.mk (HBr.out.trans (BX.out.mono HBr.out.size))
      have HWc := Aside0.mk (with_calls o (k, s) X cx W1 (HX.out.below BX.out) (by omega))
      generalize withL o (k, s) = o2 at HWc HT
      go_wp2_with fail
      refine HWc.out.mono ?_
      rintro e w5 ⟨v, rfl, hr, hB⟩
      obtain ⟨Y, cy, rfl⟩ := own_slice hr
      have Y5 := Aside0.mk (own_chs hr rfl)
      have B5 := Aside0.mk (B1.out.trans (hB.mono B1.out.size))
      clear hr hB HWc
      go_wp2_with fail
      go_roundw
      case rel => exact ⟨i + 1, Y, cy, by omega, by simp, by rw [HT.out], ⟨by rw [HT.out]; exact Y5.out⟩, B5⟩
      case measure => simp [intOf]; omega
    · obtain rfl : i = b.length := by omega
      rw [List.take_length] at HX ⊢
      generalize withAll a b = o at HX HRes ⊢
      by_cases g : 48 < o.length
      · have q : decide (48 < o.length) = true := decide_eq_true g
        have HRe : Aside0 (merS a b = ([], 2)) := ⟨by rw [HRes.out, if_pos g]⟩
        go_wp2_with fail
        go_ret2
        rw [HRe.out]
        exact ⟨none, 0, rfl, Chs.nil _ _, HBr.out⟩
      · have q : decide (48 < o.length) = false := decide_eq_false g
        have HRe : Aside0 (merS a b = (o, 0)) := ⟨by rw [HRes.out, if_neg g]⟩
        go_wp2_with fail
        go_ret2
        rw [HRe.out]
        exact ⟨X, cx, rfl, HX.out, HBr.out⟩
theorem rmerge_calls (a b : List Ch) (A B : Option Addr) (c c' : Nat) (w : World) (ha : Chs w A a) (hb : Chs w B b) (hl1 : a.length ≤ 1125899906842624) (hl2 : b.length ≤ 1125899906842624) :
    Calls Try.prog 9 #[.slice A a.length c, .slice B b.length c'] w (RmPost w (merS a b).1 (merS a b).2) := by
  by_cases h : right a ∧ right b
  · exact rmerge_yes a b A B c c' w ha hb h.1 h.2
  · have e : merS a b = ([], 70) := by unfold merS; rw [if_pos h]
    rw [e]
    exact rmerge_no a b A B c c' w ha hb hl1 hl2 h
end Go.Proofs.Ytofiblkeihchmaa.Txn
namespace Go.Proofs.Ytofiblkeihchmaa.Core
open Go.RowKit Go.Proofs.YtofiblkeihchmaaW.PrintWords Go.Proofs.YtofiblkeihchmaaW.PrintLast Go.Proofs.YtofiblkeihchmaaW.PrintMore Go.Proofs.Ytofiblkeihchmaa.TxnS Go.Proofs.Ytofiblkeihchmaa.Txn
set_option maxHeartbeats 6400000 in
set_option maxRecDepth 100000 in
theorem txnMerges (W : World) (a b : List Ch) (A B : Option Addr) (c1 c2 : Nat) (ha : Chs W A a) (hb : Chs W B b) (hla : a.length ≤ 1125899906842624) (hlb : b.length ≤ 1125899906842624) :
    Calls Try.prog 3 #[.slice A a.length c1, .slice B b.length c2] W fun e W' => e = .returned (.bool true) ∧ Below W.heap.size W W' := by
  have HA := Aside0.mk ha
  have HB := Aside0.mk hb
  have HM1 := Aside0.mk (merge_calls a b A B c1 c2 W ha hb hla hlb)
  have HM2 := Aside0.mk (fun w (h : Below W.heap.size W w) => rmerge_calls a b A B c1 c2 w (ha.below h) (hb.below h) hla hlb)
  have HS := Aside0.mk speaks_calls
  have HCk := Aside0.mk (fun w (h : Below W.heap.size W w) => check_calls a A c1 w (ha.below h) hla)
  have HRg := Aside0.mk (fun w (h : Below W.heap.size W w) => right_calls a A c1 w (ha.below h) hla)
  have hml : (merS a b).1.length ≤ 1125899906842624 := by
    by_cases hh : (merS a b).2 = 0
    · have := (merS_ok hh).2.2.2.2; omega
    · rw [merS_no hh]; simp
  clear ha hb
  generalize merS a b = p at HM1 HM2 hml
  obtain ⟨pl, pe⟩ := p
  dsimp only at HM1 HM2 hml
  have qpe : (pe == pe) = true := by simp
  by_cases hr : right a
  all_goals
    first
      | (rw [show chk a = 0 from if_pos hr] at HCk; rw [decide_eq_true hr] at HRg)
      | (rw [show chk a = 70 from if_neg hr] at HCk; rw [decide_eq_false hr] at HRg)
    clear hr
    go_enter Try.func3, Try.ntmps3
    go_wp2_with fail
    refine HM1.out.mono ?_
    rintro e w1 ⟨v1, rfl, hr, hB⟩
    obtain ⟨X, cx, rfl⟩ := own_slice hr
    have X1 := Aside0.mk (own_chs hr rfl)
    have B1 := Aside0.mk hB
    clear hr hB HM1
    go_wp2_with fail
    refine (HM2.out _ B1.out).mono ?_
    rintro e w2 ⟨Y, cy, rfl, hY, hB⟩
    have Y2 := Aside0.mk hY
    have X2 := Aside0.mk (X1.out.below hB)
    have B2 := Aside0.mk (B1.out.trans (hB.mono B1.out.size))
    clear hY hB HM2 X1 B1
    go_wp2_with fail
    refine (HCk.out _ B2.out).mono ?_
    rintro e w3 ⟨rfl, hB⟩
    have B3' := Aside0.mk hB
    have B3 := Aside0.mk (B2.out.trans (hB.mono B2.out.size))
    clear hB HCk
    go_wp2_with fail
    refine (HRg.out _ B3.out).mono ?_
    rintro e w4 ⟨rfl, hB⟩
    have B4' := Aside0.mk (B3'.out.trans (hB.mono B3'.out.size))
    have B4 := Aside0.mk (B3.out.trans (hB.mono B3.out.size))
    clear hB HRg B3 B3'
    have HC1 := Aside0.mk (changes_calls pl pl X Y cx cy w4 (X2.out.below B4'.out) (Y2.out.below B4'.out) hml hml)
    rw [decide_eq_true rfl] at HC1
    go_wp2_with fail
    refine HC1.out.mono ?_
    rintro e w6 ⟨rfl, hB⟩
    have B6 := Aside0.mk (B4.out.trans (hB.mono B4.out.size))
    clear hB HC1
    go_wp2_with fail
    refine (HS.out _).mono ?_
    rintro e w8 ⟨rfl, hB⟩
    have B8 := Aside0.mk (B6.out.trans (hB.mono B6.out.size))
    clear hB
    go_wp2_with fail
    go_ret
    exact ⟨rfl, B8.out⟩
theorem TxnMerges (W : World) (A : Option Addr) (n c1 : Nat) (a : List Ch) (h1 : (Kd.slice 39 chK).K W a [.slice A n c1]) (g1 : goodL a) (B : Option Addr) (m c2 : Nat) (b : List Ch) (h2 : (Kd.slice 39 chK).K W b [.slice B m c2]) (g2 : goodL b) :
    Calls Try.prog 3 #[.slice A n c1, .slice B m c2] W fun e W' => e = .returned (.bool true) ∧ Below W.heap.size W W' := by
  obtain ⟨rfl, ha⟩ := chs_of h1
  obtain ⟨rfl, hb⟩ := chs_of h2
  exact txnMerges W a b A B c1 c2 ha hb (by have := g1.1; omega) (by have := g2.1; omega)
end Go.Proofs.Ytofiblkeihchmaa.Core
end
