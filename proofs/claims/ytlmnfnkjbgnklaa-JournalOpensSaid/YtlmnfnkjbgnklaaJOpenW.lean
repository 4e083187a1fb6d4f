/- A journal's region, opened. -/
import Derived.Test.YtlmnfnkjbgnklaaJOpenH
import Derived.Test.YtlmnfnkjbgnklaaRefJB
set_option linter.unusedVariables false
set_option linter.unusedSimpArgs false
namespace Go.Proofs.Ytlmnfnkjbgnklaa.Jrnl
open Go.RowKit Go.Proofs.YtlmnfnkjbgnklaaW.PrintWords Go.Proofs.YtlmnfnkjbgnklaaW.PrintLast Go.Proofs.YtlmnfnkjbgnklaaW.PrintMore Go.Proofs.Ytlmnfnkjbgnklaa.TxnS Go.Proofs.Ytlmnfnkjbgnklaa.Txn Go.Proofs.Ytlmnfnkjbgnklaa.JS Go.Proofs.Ytlmnfnkjbgnklaa.Run Go.Proofs.Ytlmnfnkjbgnklaa.Spec Go.Proofs.Ytlmnfnkjbgnklaa.C
theorem tv_push (l : List ByteArray) (s : ByteArray) : tv (l ++ [s]) = tv l ++ [.string s] := by simp [tv]
theorem tv_len (l : List ByteArray) : (tv l).length = l.length := by simp [tv]
theorem rowx_strs {w : World} {B n c : Nat} {e : TypeId} {A : Option Addr} {l : List ByteArray} (h : RowX w B e (.slice A n c) (tv l)) : Strs w A l := by
  intro i hi
  obtain ⟨g, off, cap, e1, e2⟩ := h.cell (i := i) (by rw [tv_len]; exact hi)
  simp only [Value.slice.injEq] at e1
  obtain ⟨rfl, -, -⟩ := e1
  refine ⟨_, rfl, ?_⟩
  have e3 : (⟨g, off, none⟩ : Addr).add i = ⟨g, off + i, none⟩ := by unfold Addr.add; split <;> simp_all
  rw [e3, e2]
  simp [tv]
theorem chs_lt {w : World} {A : Option Addr} {l : List Ch} {c : Nat} (h : Chs w A l) : ∀ k, rd (.slice A l.length c) k → k < w.heap.size := by
  intro k hk
  cases A with
  | none => exact absurd hk id
  | some ad =>
    obtain ⟨h1, rfl⟩ := hk
    obtain ⟨ad', e, h2, _⟩ := h 0 h1
    obtain rfl := Option.some.inj e
    have := World.block_lt_of_cell? w _ h2
    have e1 : (ad.add (0 * 2)).block = ad.block := by unfold Addr.add; split <;> rfl
    rwa [e1] at this
theorem own_rd {w : World} {base n c : Nat} {e : TypeId} {sz : Nat} {A : Option Addr} {xs : List Value} (h : w.ownsRow base e sz (.slice A n c) n xs) : ∀ k, rd (.slice A n c) k → (Value.slice A n c).ownBlock = some k := by
  intro k hk
  cases A with
  | none => exact absurd hk id
  | some ad => exact congrArg some hk.2
/-- A journal, transactions and blocks, side by side. -/
structure OS (B : Nat) (w : World) (jb : Nat) (vj u : Value) (us : List Value) (v8 : Value) (J : Jr) (L : List (List Ch)) (rest : List ByteArray) : Prop where
  j : JIs B w jb vj J
  o : RowX w B 31 u us
  uo : UsOk w us L
  r : RowX w B 9 v8 (tv rest)
  d1 : ∀ k, u.ownBlock = some k → ¬ fp jb vj k
  d2 : ∀ k, v8.ownBlock = some k → ¬ fp jb vj k ∧ u.ownBlock ≠ some k
  d3 : ∀ x ∈ us, ∀ k, rd x k → k < w.heap.size ∧ B ≤ k ∧ ¬ fp jb vj k ∧ u.ownBlock ≠ some k
section
variable {B : Nat} {w w' : World} {jb : Nat} {vj u : Value} {us : List Value} {v8 : Value} {J : Jr} {L : List (List Ch)} {rest : List ByteArray}
theorem OS.below (h : OS B w jb vj u us v8 J L rest) (hb : Below w.heap.size w w') : OS B w' jb vj u us v8 J L rest :=
  ⟨h.j.below hb, h.o.below hb, h.uo.step fun x hx k hk => hb.block k (h.d3 x hx k hk).1, h.r.below hb, h.d1, h.d2, fun x hx k hk => ⟨Nat.lt_of_lt_of_le (h.d3 x hx k hk).1 hb.size, (h.d3 x hx k hk).2⟩⟩
theorem OS.pushOut {u' : Value} {A : Option Addr} {l : List Ch} {c : Nat} (h : OS B w jb vj u us v8 J L rest) (hr : RowX w' B 31 u' (us ++ [.slice A l.length c])) (hg : w.grownBy w' u.ownBlock) (ho : u'.ownBlock = u.ownBlock ∨ u'.ownBlock = some w.heap.size) (hc : Chs w A l) (hl : ∀ k, rd (.slice A l.length c) k → B ≤ k ∧ ¬ fp jb vj k ∧ u.ownBlock ≠ some k) : OS B w' jb vj u' (us ++ [.slice A l.length c]) v8 J (L ++ [l]) rest := by
  have hlo : ∀ x ∈ us ++ [.slice A l.length c], ∀ k, rd x k → k < w.heap.size ∧ B ≤ k ∧ ¬ fp jb vj k ∧ u.ownBlock ≠ some k := fun x hx k hk => by
    rcases List.mem_append.1 hx with hx | hx
    · exact h.d3 x hx k hk
    · obtain rfl : x = .slice A l.length c := by simpa using hx
      exact ⟨chs_lt hc k hk, hl k hk⟩
  have hu' : ∀ k, k < w.heap.size → u.ownBlock ≠ some k → u'.ownBlock ≠ some k := fun k hk hn e => by
    rcases ho with e1 | e1
    · exact hn (e1 ▸ e)
    · have := Option.some.inj (Eq.trans (Eq.symm e1) e); omega
  refine ⟨h.j.step fun k hk => hg.block k (h.j.lt hk) (fun e => h.d1 k e.symm hk), hr, (h.uo.push hc).step fun x hx k hk => hg.block k (hlo x hx k hk).1 (fun e => (hlo x hx k hk).2.2.2 e.symm), h.r.step fun k hk => hg.block k (h.r.lt k hk) (fun e => (h.d2 k hk).2 e.symm), fun k hk hf => ?_, fun k hk => ⟨(h.d2 k hk).1, hu' k (h.r.lt k hk) (h.d2 k hk).2⟩, fun x hx k hk => ?_⟩
  · rcases ho with e1 | e1
    · exact h.d1 k (Eq.trans (Eq.symm e1) hk) hf
    · have h1 := Option.some.inj (Eq.trans (Eq.symm e1) hk)
      have := h.j.lt hf
      omega
  · obtain ⟨h1, h2, h3, h4⟩ := hlo x hx k hk
    exact ⟨Nat.lt_of_lt_of_le h1 hg.size, h2, h3, hu' k h1 h4⟩
theorem OS.pushSize {v' : Value} {n : Nat} (h : OS B w jb vj u us v8 J L rest) (hr : RowX w' B 3 v' (sv J.sizes ++ [.int .i64 (n : Int)])) (hg : w.grownBy w' vj.ownBlock) (ho : v'.ownBlock = vj.ownBlock ∨ v'.ownBlock = some w.heap.size) : OS B (w'.setCell ⟨jb, 4, none⟩ v') jb v' u us v8 { J with sizes := J.sizes ++ [n] } L rest := by
  have hne : v'.ownBlock ≠ some jb := fun e => by
    rcases ho with e1 | e1
    · exact h.j.ne (Eq.trans (Eq.symm e1) e)
    · have h1 := Option.some.inj (Eq.trans (Eq.symm e1) e)
      have := h.j.lt (.inl rfl)
      omega
  have hb : ∀ k, k < w.heap.size → ¬ fp jb vj k → (w'.setCell ⟨jb, 4, none⟩ v').heap[k]? = w.heap[k]? := fun k hk hn => (blk_set_ne 4 v' (fun e => hn (.inl e.symm))).trans (hg.block k hk (fun e => hn (.inr e.symm)))
  have hs : (w'.setCell ⟨jb, 4, none⟩ v').heap.size = w'.heap.size := by simp [World.setCell]
  have hf : ∀ k, k < w.heap.size → ¬ fp jb vj k → ¬ fp jb v' k := fun k hk hn hf => by
    rcases hf with e | e
    · exact hn (.inl e)
    · rcases ho with e1 | e1
      · exact hn (.inr (Eq.trans (Eq.symm e1) e))
      · have := Option.some.inj (Eq.trans (Eq.symm e1) e); omega
  have hblk : w'.heap[jb]? = some (.cells #[.int .i64 J.ring, .int .i64 J.tail, .int .i64 J.first, .int .i64 J.sealed, vj] 72 (0, 0)) := (hg.block jb (h.j.lt (.inl rfl)) (fun e => h.j.ne e.symm)).trans h.j.blk
  refine ⟨⟨blk_set hblk 4 _, ?_, h.j.bd, hne⟩, h.o.step fun k hk => hb k (h.o.lt k hk) (h.d1 k hk), h.uo.step fun x hx k hk => hb k (h.d3 x hx k hk).1 (h.d3 x hx k hk).2.2.1, h.r.step fun k hk => hb k (h.r.lt k hk) (h.d2 k hk).1, fun k hk => hf k (h.o.lt k hk) (h.d1 k hk), fun k hk => ⟨hf k (h.r.lt k hk) (h.d2 k hk).1, (h.d2 k hk).2⟩, fun x hx k hk => ?_⟩
  · show RowX _ B 3 v' (sv (J.sizes ++ [n]))
    rw [sv_push]
    exact hr.step fun k hk => blk_set_ne 4 _ (fun e => hne (e ▸ hk))
  · obtain ⟨h1, h2, h3, h4⟩ := h.d3 x hx k hk
    exact ⟨by rw [hs]; exact Nat.lt_of_lt_of_le h1 hg.size, h2, hf k h1 h3, h4⟩
theorem OS.cut {A : Option Addr} {n c k : Nat} (h : OS B w jb vj u us (.slice A n c) J L rest) (hn : n = rest.length) (hk : k ≤ n) : OS B w jb vj u us (.slice (if c = k then A else A.map (fun x => x.add k)) (n - k) (c - k)) J L (rest.drop k) := by
  obtain ⟨h1, h2⟩ := RowX_cut2 (k := k) h.r (by rw [tv_len]; exact hn) hk
  have e : tv (rest.drop k) = (tv rest).drop k := by simp [tv, List.map_drop]
  exact ⟨h.j, h.o, h.uo, by rw [e]; exact h1, h.d1, fun i hi => h.d2 i (by rwa [h2] at hi), h.d3⟩
end
theorem infoL1 : (Try.prog.info? 31).map (fun i => (i.zero, i.size, i.bytes)) = some (some (.slice none 0 0), 1, 24) := by kernel_rfl
/-- What Open leaves. -/
def OpPost (w : World) (r : Option (Jr × List (List Ch))) (e : Ending) (w' : World) : Prop :=
  (∃ J L jb vj u us v8 rest, r = some (J, L) ∧ e = .returned (.tuple #[ptr jb, u, .int .i64 0]) ∧ OS w.heap.size w' jb vj u us v8 J L rest ∧ Below w.heap.size w w') ∨
  (r = none ∧ e = .returned (.tuple #[.pointer none, .slice none 0 0, .int .i64 80]) ∧ Below w.heap.size w w')
theorem open_no (reg : List ByteArray) (A : Option Addr) (c : Nat) (w : World) (h : reg.length < 8 ∨ 256 < reg.length) :
    Calls Try.prog 25 #[.slice A reg.length c] w fun e w' => e = .returned (.tuple #[.pointer none, .slice none 0 0, .int .i64 80]) ∧ Below w.heap.size w w' := by
  have hb : decide ((reg.length : Int) < 8) = true ∨ (decide ((reg.length : Int) < 8) = false ∧ decide ((reg.length : Int) > 256) = true) := by simp; omega
  generalize reg.length = n at *
  clear h
  rcases hb with b1 | ⟨b1, b2⟩
  all_goals
    go_enter Try.func25, Try.ntmps25
    go_wp2_with fail
    refine bodyPost_ret (v := .tuple #[.pointer none, .slice none 0 0, .int .i64 80]) (by simp [results, Try.results25, go_sem]) rfl ⟨rfl, Below.refl _ _⟩
theorem ringL_len (reg : List ByteArray) (m T : Nat) : (ringL reg m T).length = m := by simp [ringL]
theorem ringL_mem (reg : List ByteArray) (m T : Nat) (hm : m + 1 = reg.length) : ∀ b ∈ ringL reg m T, b ∈ reg := by
  intro b hb
  obtain ⟨i, hi, rfl⟩ := List.mem_map.1 hb
  have hi' : i < m := List.mem_range.1 hi
  have := Nat.mod_lt (T + i) (show 0 < m by omega)
  rw [List.getElem?_eq_getElem (by omega)]
  exact List.getElem_mem _
theorem ringL_take (reg : List ByteArray) (m T i : Nat) (hm : m + 1 = reg.length) (hi : i < m) : ∃ s, reg[(T + i) % m + 1]? = some s ∧ (ringL reg m T).take (i + 1) = (ringL reg m T).take i ++ [s] := by
  have := Nat.mod_lt (T + i) (show 0 < m by omega)
  refine ⟨reg[(T + i) % m + 1]'(by omega), List.getElem?_eq_getElem _, ?_⟩
  rw [List.take_succ_eq_append_getElem (by rw [ringL_len]; exact hi)]
  congr 2
  unfold ringL
  rw [List.getElem_map, List.getElem_range, List.getElem?_eq_getElem (by omega)]
  rfl
theorem loopJ_step {k : Nat} {q : Int} {bs : List ByteArray} (h1 : (decS bs).2.2.2 = 0) (h2 : (decS bs).1 = q) : loopJ (k + 1) q bs = (loopJ k (q + 1) (bs.drop ((decS bs).2.1.length + 1))).map fun r => (decS bs).2.1 :: r := by
  rw [loopJ, if_neg (by rintro (h | h); exact h h1; exact h h2)]
theorem loopJ_stop {k : Nat} {q : Int} {bs : List ByteArray} (h : (decS bs).2.2.2 ≠ 0 ∨ (decS bs).1 ≠ q) : loopJ (k + 1) q bs = none := by
  rw [loopJ, if_pos h]
theorem opJ_ok {b : ByteArray} {n : Int} {J : Jr} (h : opJ b n = some J) : J.ring = n - 1 ∧ 0 ≤ J.tail ∧ J.tail < n - 1 ∧ 1 ≤ J.first ∧ J.first ≤ 1099511627776 ∧ 0 ≤ J.sealed ∧ J.sealed ≤ n - 1 ∧ J.sizes = [] := by
  unfold opJ at h
  split at h
  · cases h
  · split at h
    · rename_i h1
      obtain rfl := Option.some.inj h
      have h2 := of_decide_eq_true h1
      refine ⟨rfl, ?_, h2.2.1, h2.2.2.1, h2.2.2.2.1, ?_, h2.2.2.2.2.2, rfl⟩
      · exact readS_nn _ _ _
      · have := h2.2.2.2.2.1
        exact Int.sub_nonneg_of_le this
    · cases h
set_option maxHeartbeats 6400000 in
set_option maxRecDepth 100000 in
theorem open_yes (reg : List ByteArray) (A : Option Addr) (c : Nat) (w : World) (h : Strs w A reg) (hs : ∀ b ∈ reg, b.size ≤ 1125899906842624) (h1 : 8 ≤ reg.length) (h2 : reg.length ≤ 256) :
    Calls Try.prog 25 #[.slice A reg.length c] w (OpPost w (openJ reg)) := by
  have hu := Try.underlying72
  have hup := Try.underlying23
  obtain ⟨n, hn⟩ : ∃ n, n = reg.length := ⟨_, rfl⟩
  obtain ⟨b0, hb0⟩ : ∃ b0, reg[0]? = some b0 := ⟨_, List.getElem?_eq_getElem (by omega)⟩
  obtain ⟨ad, rfl, c0⟩ : ∃ ad, A = some ad ∧ w.cell? ad = some (.string b0) := by
    obtain ⟨ad, e, hc⟩ := h 0 (by omega)
    have e0 : ad.add 0 = ad := by unfold Addr.add; simp
    rw [e0] at hc
    refine ⟨ad, e, hc.trans ?_⟩
    rw [List.getElem?_eq_getElem (by omega)] at hb0
    rw [Option.some.inj hb0]
  have hb0s : b0.size ≤ 1125899906842624 := hs b0 (List.mem_of_getElem? hb0)
  have HO : Aside0 (openJ reg = match opJ b0 n with
    | none => none
    | some J => match loopJ J.sealed.toNat J.first (ringL reg (n - 1) J.tail.toNat) with
      | none => none
      | some L => some ({ J with sizes := L.map fun l => l.length + 1 }, L)) := ⟨by unfold openJ; rw [if_neg (by omega), hb0, ← hn]; rfl⟩
  obtain ⟨res, hres⟩ : ∃ res, res = openJ reg := ⟨_, rfl⟩
  rw [← hres] at HO ⊢
  rw [← hn]
  have H := Aside0.mk h
  have HSz := Aside0.mk hs
  have HN := Aside0.mk hn
  have hn1 : (8 : Int) ≤ n := by omega
  have hn2 : (n : Int) ≤ 256 := by omega
  have hn3 : 8 ≤ n := by omega
  have hn4 : n ≤ 256 := by omega
  have b1 : decide ((n : Int) < 8) = false := decide_eq_false (by omega)
  have b2 : decide ((n : Int) > 256) = false := decide_eq_false (by omega)
  have hn0 : (0 : Int) < n := by omega
  have hn00 : 0 < n := by omega
  clear h hs h1 h2 hn hb0 hres
  go_enter Try.func25, Try.ntmps25
  go_wp2_with fail
  refine (jheaded_calls b0 n w hn1 hn2 hb0s).mono ?_
  intro e w1 hp
  rcases hp with ⟨J, jb, hJ, rfl, hI, hz, hB⟩ | ⟨p, hJ, rfl, hB⟩
  · obtain ⟨o1, o2, o3, o4, o5, o6, o7, o8⟩ := opJ_ok hJ
    obtain ⟨m, rfl⟩ : ∃ m, n = m + 1 := ⟨n - 1, by omega⟩
    obtain ⟨T, hT⟩ : ∃ T : Nat, J.tail = T := ⟨J.tail.toNat, by omega⟩
    obtain ⟨K, hK⟩ : ∃ K : Nat, J.sealed = K := ⟨J.sealed.toNat, by omega⟩
    obtain ⟨ring, tail, first, sl, sizes⟩ := J
    dsimp only at o1 o2 o3 o4 o5 o6 o7 o8 hT hK hz
    subst hz hT hK
    obtain rfl : ring = (m : Int) := by omega
    have hTm : T < m := by omega
    have hKm : K ≤ m := by omega
    have HO2 : Aside0 (res = match loopJ K first (ringL reg m T) with
      | none => none
      | some L => some ((⟨(m : Int), (T : Int), first, (K : Int), L.map fun l => l.length + 1⟩ : Jr), L)) := ⟨by rw [HO.out, hJ]; rfl⟩
    have I1 := Aside0.mk hI
    have B1 := Aside0.mk hB
    have HRL := Aside0.mk (ringL_len reg m T)
    clear hJ hI hB HO o1 o2 o3 o6 o7 o8
    have c0j := I1.out.c0
    dsimp only at c0j
    unfold ptr
    go_wp2_with fail
    go_loopw [8, 37] (fun v8 v37 wr => ∃ i : Nat, i ≤ m ∧ v37 = .int .i64 (i : Int) ∧ Aside0 (RowX wr w1.heap.size 9 v8 (tv ((ringL reg m T).take i))) ∧ Aside0 (Below w1.heap.size w1 wr)) (fun _ x _ => m - (intOf x).toNat)
    case atStart => exact ⟨0, by omega, rfl, ⟨RowX.nil _ _ _⟩, ⟨Below.refl _ _⟩⟩
    case round =>
      obtain ⟨i, hi, rfl, HR, HBr⟩ := hrel
      obtain ⟨A8, c8, rfl⟩ := HR.out.slice
      by_cases hlt : i < m
      · obtain ⟨s, hs1, hs2⟩ := ringL_take reg m T i (by rw [← HN.out]) hlt
        obtain ⟨ad', e', hcs⟩ := H.out ((T + i) % m + 1) (by have := Nat.mod_lt (T + i) (show 0 < m by omega); rw [← HN.out]; omega)
        obtain rfl := Option.some.inj e'
        have hcs2 : w.cell? (ad.add ((T + i) % m + 1)) = some (.string s) := by
          rw [hcs]
          rw [List.getElem?_eq_getElem (by have := Nat.mod_lt (T + i) (show 0 < m by omega); rw [← HN.out]; omega)] at hs1
          rw [Option.some.inj hs1]
        have HBw := Aside0.mk (B1.out.trans (HBr.out.mono B1.out.size))
        have cs := (World.cell?_of_block (HBw.out.block _ (World.block_lt_of_cell? w _ hcs2))).trans hcs2
        have HT := Aside0.mk hs2
        have HL : Aside0 ((tv ((ringL reg m T).take i)).length = i) := ⟨by rw [tv_len, List.length_take, HRL.out]; omega⟩
        have hmod := Nat.mod_lt (T + i) (show 0 < m by omega)
        have c0k := (I1.out.below HBr.out).c0
        have c1k := (I1.out.below HBr.out).c1
        dsimp only at c0k c1k
        have q1 : IntKind.i64.wrap ((T : Int) + (i : Int)) = (T : Int) + (i : Int) := IntWalk.i64_in _ (by omega)
        obtain ⟨p, hp⟩ : ∃ p, p = (T + i) % m := ⟨_, rfl⟩
        rw [← hp] at cs hmod
        have e9 : ad.add (p + 1) = ⟨ad.block, ad.off + (p + 1), none⟩ := by unfold Addr.add; simp
        rw [e9] at cs
        clear e9
        have q8 : ((T : Int) + (i : Int)).tmod (m : Int) = (p : Int) := by
          rw [Int.tmod_eq_emod_of_nonneg (by omega), hp]
          exact_mod_cast rfl
        have q9 : ((T : Int) + (i : Int)) % (m : Int) = (p : Int) := by
          rw [hp]
          exact_mod_cast rfl
        have q2 : IntKind.i64.wrap ((p : Int) + 1) = (p : Int) + 1 := IntWalk.i64_in _ (by omega)
        have q4 : (0 : Int) ≤ (p : Int) + 1 := by omega
        have q5 : (p : Int) + 1 < (m : Int) + 1 := by omega
        have q5' : (p : Int) < (m : Int) := by omega
        have q6 : ((p : Int) + 1).toNat = p + 1 := by omega
        have q7 : ¬ m = 0 := by omega
        have HPp := Aside0.mk hp
        clear hs1 hs2 hcs hcs2 hmod c0j hp
        go_wp2_with fail
        have CA := Aside0.mk ((blk_cell (blk_new wr (.cells #[.string s] 9)) 0).trans (Eq.refl (some (Value.string s))))
        have CAd : Aside0 ((wr.alloc (.cells #[.string s] 9)).drew.cell? ⟨wr.heap.size, 0, none⟩ = some (.string s)) := ⟨CA.out⟩
        have RA : Aside0 (RowX (wr.alloc (.cells #[.string s] 9)).drew w1.heap.size 9 (.slice A8 (tv ((ringL reg m T).take i)).length c8) (tv ((ringL reg m T).take i))) := ⟨(HR.out.below (below_alloc (Below.refl wr.heap.size wr) (.cells #[.string s] 9))).below (below_drew1 (Below.refl _ _))⟩
        have BA : Aside0 (Below w1.heap.size w1 (wr.alloc (.cells #[.string s] 9)).drew) := ⟨below_drew1 (below_alloc HBr.out (.cells #[.string s] 9))⟩
        have hln1 : (tv ((ringL reg m T).take i)).length + 1 ≤ maxLen := by rw [HL.out]; simp only [maxLen]; omega
        have hln2 : ((tv ((ringL reg m T).take i)).length + 1) * 16 ≤ 140737488355328 := by rw [HL.out]; omega
        go_region_law (refine step_push rfl w1.heap.size (.tmp 40) (.tmp 56) 59 9 (.string ⟨#[]⟩) 16 rfl Try.underlying59 infoS rfl _ _ (.string s) ⟨wr.heap.size, 0, none⟩ 1 rfl rfl CAd.out rfl RA.out hln1 hln2 BA.out.size ?_; intro A6 n6 w6 hr6 hg6 ho6; have R6 := Aside0.mk hr6; have G6 := Aside0.mk hg6; clear hr6 hg6 ho6)
        all_goals
          go_wp2_with fail
          go_roundw
          case rel => exact ⟨i + 1, by omega, by simp, ⟨by rw [HT.out, tv_push]; exact R6.out⟩, ⟨BA.out.grown G6.out BA.out.size (fun k hk => RA.out.ge k hk)⟩⟩
          case measure => simp [intOf]; omega
      · obtain rfl : i = m := by omega
        have hR := HR.out
        rw [List.take_of_length_le (by rw [HRL.out]; exact Nat.le_refl _)] at hR
        have hS2 : OS w.heap.size wr jb (.slice none 0 0) (.slice none 0 0) [] (.slice A8 (tv (ringL reg i T)).length c8) ⟨(i : Int), (T : Int), first, (K : Int), []⟩ [] (ringL reg i T) := by
          have hR' : RowX wr w.heap.size 9 (.slice A8 (tv (ringL reg i T)).length c8) (tv (ringL reg i T)) := by
            rcases hR with hh | ⟨g, off, cap, C, e1, e2, e3⟩
            · exact .inl hh
            · exact .inr ⟨g, off, cap, C, e1, Nat.le_trans B1.out.size e2, e3⟩
          refine ⟨I1.out.below HBr.out, RowX.nil _ _ _, ⟨rfl, fun i hi => by simp at hi⟩, hR', (fun k hk => by cases hk), fun k hk => ⟨fun hf => ?_, by simp [Value.ownBlock]⟩, fun x hx => by simp at hx⟩
          have h1 := hR.ge k hk
          have h2 := I1.out.lt hf
          omega
        have S2 := Aside0.mk hS2
        have B2 := Aside0.mk (B1.out.trans (HBr.out.mono B1.out.size))
        rw [List.take_of_length_le (by rw [HRL.out]; exact Nat.le_refl _)]
        have HRl : Aside0 ((tv (ringL reg i T)).length = i) := ⟨by rw [tv_len, HRL.out]⟩
        have HMem := Aside0.mk (ringL_mem reg i T (by rw [← HN.out]))
        clear hR hS2 HR HBr
        have c3k := S2.out.j.c3
        dsimp only at c3k
        go_wp2_with fail
        go_loopw [8, 10, 63] (fun v8 v10 v63 wq => ∃ (k : Nat) (L : List (List Ch)) (us : List Value) (vj : Value) (rest : List ByteArray), k ≤ K ∧ v63 = .int .i64 (k : Int) ∧ Aside0 (OS w.heap.size wq jb vj v10 us v8 ⟨(i : Int), (T : Int), first, (K : Int), L.map fun l => l.length + 1⟩ L rest) ∧ Aside0 (Below w.heap.size w wq) ∧ Aside0 (loopJ K first (ringL reg i T) = (loopJ (K - k) (first + (k : Int)) rest).map (fun r => L ++ r)) ∧ Aside0 (L.length = k ∧ (∀ b ∈ rest, b ∈ reg) ∧ (L.map fun l => l.length + 1).sum + rest.length = i)) (fun _ _ x _ => K - (intOf x).toNat)
        case atStart => exact ⟨0, [], [], _, ringL reg i T, by omega, rfl, S2, B2, ⟨by simp⟩, ⟨rfl, HMem.out, by simp [ringL_len]⟩⟩
        case round =>
          clear S2 B2 c3k
          obtain ⟨k, L, us, vj, rest, hk, rfl, HS, HB, HE, HM⟩ := hrel
          obtain ⟨A9, c9, rfl⟩ := HS.out.r.slice
          rw [tv_len] at HS ⊢
          by_cases hlt : k < K
          · have HD := Aside0.mk (decode_calls rest A9 c9 wr (rowx_strs HS.out.r) (fun b hb => HSz.out b (HM.out.2.1 b hb)) (by have := HM.out.2.2; omega))
            have hdl := decS_len rest
            have hst : ∀ q, (decS rest).2.2.2 ≠ 0 ∨ (decS rest).1 ≠ q → loopJ (K - k) q rest = none := fun q hq => by
              rw [show K - k = (K - k - 1) + 1 from by omega]
              exact loopJ_stop hq
            have hgo : ∀ q, (decS rest).2.2.2 = 0 → (decS rest).1 = q → loopJ (K - k) q rest = (loopJ (K - (k + 1)) (q + 1) (rest.drop ((decS rest).2.1.length + 1))).map fun r => (decS rest).2.1 :: r := fun q h1 h2 => by
              rw [show K - k = (K - (k + 1)) + 1 from by omega]
              exact loopJ_step h1 h2
            generalize decS rest = d at HD hdl hst hgo
            obtain ⟨q, l, us', er⟩ := d
            dsimp only at HD hdl hst hgo
            have HDl := Aside0.mk hdl
            have HSt := Aside0.mk hst
            have HGo := Aside0.mk hgo
            have hLk : L.length = k := HM.out.1
            have hLs : (L.map fun l => l.length + 1).length = k := by rw [List.length_map]; exact hLk
            have HLk := Aside0.mk hLk
            have HLs := Aside0.mk hLs
            clear hdl hst hgo hLk hLs
            go_wp2_with fail
            refine HD.out.mono ?_
            rintro e w4 ⟨v4, rfl, hr, hB⟩
            obtain ⟨Aq, cq, rfl⟩ := own_slice hr
            have S4 := Aside0.mk (HS.out.below hB)
            have B4 := Aside0.mk (HB.out.trans (hB.mono HB.out.size))
            have R4 := Aside0.mk hr
            have Z4 := Aside0.mk (fun kk (hk : fp jb vj kk) => HS.out.j.lt hk)
            have Z4' := Aside0.mk HS.out.o.lt
            clear hr hB HD
            by_cases g1 : er = 0
            · subst g1
              have HNx := Aside0.mk (next_calls S4.out.j (by show 0 ≤ first; omega) (by show first ≤ _; omega) (by show (L.map fun l => l.length + 1).length ≤ 1000; rw [HLs.out]; omega))
              dsimp only at HNx
              rw [HLs.out] at HNx
              unfold ptr at HNx
              by_cases g2 : q = first + (k : Int)
              · subst g2
                have hdl := HDl.out rfl
                obtain ⟨N, hN⟩ : ∃ N : Nat, N = l.length + 1 := ⟨_, rfl⟩
                obtain rfl : us' = (N : Int) := by rw [hN]; omega
                have HNl := Aside0.mk hN
                have HGo2 := Aside0.mk (HGo.out (first + (k : Int)) rfl rfl)
                have hNr : N ≤ rest.length := by rw [hN]; exact hdl.2.2
                have hrl : rest.length ≤ i := by have := HM.out.2.2; omega
                have HNr := Aside0.mk hNr
                have hN1 : N ≤ 255 := by omega
                clear hdl hN hNr HGo HSt HDl
                go_wp2_with fail
                refine HNx.out.mono ?_
                rintro e w5 ⟨rfl, hB⟩
                have S5 := Aside0.mk (S4.out.below hB)
                have R5 := Aside0.mk (pw_own_below R4.out hB)
                have B5 := Aside0.mk (B4.out.trans (hB.mono B4.out.size))
                have Z5 := Aside0.mk hB.size
                clear hB S4 B4 HNx
                obtain ⟨Ao, co, rfl⟩ := S5.out.o.slice
                have HU : Aside0 (us.length = k) := ⟨by rw [S5.out.uo.1]; exact HLk.out⟩
                have hrlo : Aside0 (∀ kk, rd (.slice Aq l.length cq) kk → wr.heap.size ≤ kk ∧ kk < w5.heap.size) := ⟨fun kk hk => ⟨own_base R4.out kk (own_rd R4.out kk hk), own_lt R5.out kk (own_rd R5.out kk hk)⟩⟩
                go_upto_region 19 with fail
                have SA := Aside0.mk (S5.out.below (below_alloc (Below.refl w5.heap.size w5) (.cells #[.slice Aq l.length cq] 31)))
                have BA := Aside0.mk (below_alloc B5.out (.cells #[.slice Aq l.length cq] 31))
                have CA := Aside0.mk ((blk_cell (blk_new w5 (.cells #[.slice Aq l.length cq] 31)) 0).trans (Eq.refl (some (Value.slice Aq l.length cq))))
                have HPO : Aside0 (∀ A6 n6 w6, RowX w6 w.heap.size 31 (.slice A6 (us.length + 1) n6) (us ++ [.slice Aq l.length cq]) → (w5.alloc (.cells #[.slice Aq l.length cq] 31)).grownBy w6 (Value.slice Ao us.length co).ownBlock → ((Value.slice A6 (us.length + 1) n6).ownBlock = (Value.slice Ao us.length co).ownBlock ∨ (Value.slice A6 (us.length + 1) n6).ownBlock = some (w5.alloc (.cells #[.slice Aq l.length cq] 31)).heap.size) → OS w.heap.size w6 jb vj (.slice A6 (us.length + 1) n6) (us ++ [.slice Aq l.length cq]) (.slice A9 rest.length c9) ⟨(i : Int), (T : Int), first, (K : Int), L.map fun l => l.length + 1⟩ (L ++ [l]) rest ∧ Below w.heap.size w w6) := ⟨fun A6 n6 w6 hr6 hg6 ho6 => by
                  have hcq : Chs (w5.alloc (.cells #[.slice Aq l.length cq] 31)) Aq l := (own_chs R5.out rfl).below (below_alloc (Below.refl w5.heap.size w5) _)
                  refine ⟨SA.out.pushOut hr6 hg6 ho6 hcq fun kk hkk => ?_, BA.out.grown hg6 BA.out.size (fun k hk => SA.out.o.ge k hk)⟩
                  have h1 := hrlo.out kk hkk
                  have h2 := HB.out.size
                  refine ⟨by omega, fun hf => ?_, fun e => ?_⟩
                  · have := Z4.out kk hf; omega
                  · have := Z4'.out kk e; omega⟩
                go_upto_region 20 with (at_builtin; refine wpList_push rfl w.heap.size (.tmp 80) (.tmp 82) 54 31 (.slice none 0 0) 24 rfl Try.underlying54 infoL1 rfl _ _ (.slice Aq l.length cq) ⟨w5.heap.size, 0, none⟩ 1 rfl rfl CA.out rfl SA.out.o (by rw [HU.out]; simp only [maxLen]; omega) (by rw [HU.out]; omega) BA.out.size ?_; intro A6 n6 w6 hr6 hg6 ho6; have hh6 := HPO.out A6 n6 w6 hr6 hg6 ho6; have S6 := Aside0.mk hh6.1; have B6 := Aside0.mk hh6.2; clear hr6 hg6 ho6 hh6)
                clear SA BA CA HPO S5 R5 R4 Z4 Z4' hrlo HB HS
                obtain ⟨Az, cz, rfl⟩ := S6.out.j.slice
                have hll : (L.map fun l => l.length + 1).length = k := HLs.out
                have SB := Aside0.mk (S6.out.below (below_alloc (Below.refl w6.heap.size w6) (.cells #[.int .i64 (N : Int)] 3)))
                have BB := Aside0.mk (below_alloc B6.out (.cells #[.int .i64 (N : Int)] 3))
                have CB := Aside0.mk ((blk_cell (blk_new w6 (.cells #[.int .i64 (N : Int)] 3)) 0).trans (Eq.refl (some (Value.int .i64 (N : Int)))))
                have c4 := S6.out.j.c4
                have f4 := blk_frozen S6.out.j.blk 4
                dsimp only at c4
                rw [hll] at SB S6 c4
                have HK7 : Aside0 (∀ w7, (w6.alloc (.cells #[.int .i64 (N : Int)] 3)).grownBy w7 (Value.slice Az k cz).ownBlock → w7.heap[jb]? = some (.cells #[.int .i64 (i : Int), .int .i64 (T : Int), .int .i64 first, .int .i64 (K : Int), .slice Az k cz] 72 (0, 0))) := ⟨fun w7 hg => (hg.block jb (blk_lt SB.out.j.blk) (fun e => SB.out.j.ne e.symm)).trans SB.out.j.blk⟩
                have hsvl : (sv (L.map fun l => l.length + 1)).length = k := by rw [sv_length]; exact hll
                have HSv := Aside0.mk hsvl
                clear hll hsvl
                go_upto_region 21 with (at_builtin; refine wpList_push rfl w.heap.size (.tmp 88) (.tmp 90) 58 3 (.int .i64 0) 8 rfl Try.underlying58 infoI rfl _ _ (.int .i64 (N : Int)) ⟨w6.heap.size, 0, none⟩ 1 rfl rfl CB.out rfl SB.out.j.row (by rw [HSv.out]; simp only [maxLen]; omega) (by rw [HSv.out]; omega) BB.out.size ?_; intro A7 n7 w7 hr7 hg7 ho7; have R7 := Aside0.mk hr7; have G7 := Aside0.mk hg7; have O7 := Aside0.mk ho7; have K7 := Aside0.mk (HK7.out w7 hg7); have f7 := blk_frozen K7.out 4; clear hr7 hg7 ho7; have c7 := (blk_cell K7.out 4).trans (Eq.refl (some (Value.slice Az k cz))))
                obtain ⟨v7, hv7⟩ : ∃ v7, v7 = Value.slice A7 ((sv (L.map fun l => l.length + 1)).length + 1) n7 := ⟨_, rfl⟩
                rw [← hv7] at R7 O7 ⊢
                have S8 := Aside0.mk (SB.out.pushSize R7.out G7.out O7.out)
                have B8 : Aside0 (Below w.heap.size w (w7.setCell ⟨jb, 4, none⟩ v7)) := ⟨(BB.out.grown G7.out BB.out.size (fun kk hk => SB.out.j.ge (.inr hk))).setCell (p := ⟨jb, 4, none⟩) SB.out.j.bd _⟩
                generalize w7.setCell ⟨jb, 4, none⟩ v7 = w8 at S8 B8 ⊢
                clear SB BB CB c4 f4 HK7 R7 G7 O7 K7 f7 c7 S6 B6
                have S9 := Aside0.mk (S8.out.cut (k := N) rfl HNr.out)
                have hNc : N ≤ c9 := by
                  rcases S8.out.r with ⟨h1, h2⟩ | ⟨g, off, cap, C, h1, _, _, h3, _⟩
                  · simp only [Value.slice.injEq] at h1; have := HNr.out; omega
                  · simp only [Value.slice.injEq] at h1
                    have := HNr.out
                    rw [tv_len] at h3
                    omega
                have hE9 : Aside0 (loopJ K first (ringL reg i T) = (loopJ (K - (k + 1)) (first + ((k + 1 : Nat) : Int)) (rest.drop N)).map (fun r => (L ++ [l]) ++ r)) := ⟨by
                  rw [HE.out, HGo2.out, HNl.out, Option.map_map]
                  rw [show first + ((k + 1 : Nat) : Int) = first + (k : Int) + 1 from by omega]
                  congr 1
                  funext r
                  simp⟩
                have hM9 : Aside0 ((L ++ [l]).length = k + 1 ∧ (∀ b ∈ rest.drop N, b ∈ reg) ∧ ((L ++ [l]).map fun l => l.length + 1).sum + (rest.drop N).length = i) := ⟨by
                  obtain ⟨m1, m2, m3⟩ := HM.out
                  refine ⟨by simp [m1], fun b hb => m2 b (List.mem_of_mem_drop hb), ?_⟩
                  rw [List.map_append, List.sum_append, List.length_drop]
                  have := HNr.out
                  have := HNl.out
                  simp
                  omega⟩
                have hJ9 : Aside0 (∀ A B, OS w.heap.size w8 jb v7 A (us ++ [.slice Aq l.length cq]) B ⟨(i : Int), (T : Int), first, (K : Int), (L.map fun l => l.length + 1) ++ [N]⟩ (L ++ [l]) (rest.drop N) → OS w.heap.size w8 jb v7 A (us ++ [.slice Aq l.length cq]) B ⟨(i : Int), (T : Int), first, (K : Int), (L ++ [l]).map fun l => l.length + 1⟩ (L ++ [l]) (rest.drop N)) := ⟨fun A B h => by
                  have e : (L ++ [l]).map (fun l => l.length + 1) = (L.map fun l => l.length + 1) ++ [N] := by rw [List.map_append, HNl.out]; rfl
                  rw [e]
                  exact h⟩
                have hNr2 : N ≤ rest.length := HNr.out
                rcases Nat.lt_or_ge N c9 with hkk | hkk
                · have hne : ¬ c9 = N := by omega
                  rw [if_neg hne] at S9
                  go_wp2_with fail
                  go_roundw
                  case rel => exact ⟨k + 1, L ++ [l], _, _, rest.drop N, by omega, by simp, ⟨hJ9.out _ _ S9.out⟩, B8, hE9, hM9⟩
                  case measure => simp [intOf]; omega
                · obtain rfl : c9 = N := by omega
                  rw [if_pos rfl, Nat.sub_self] at S9
                  go_wp2_with fail
                  go_roundw
                  case rel => exact ⟨k + 1, L ++ [l], _, _, rest.drop c9, by omega, by simp, ⟨hJ9.out _ _ S9.out⟩, B8, hE9, hM9⟩
                  case measure => simp [intOf]; omega
              · have q2 : (q != first + (k : Int)) = true := by simp [g2]
                have HR : Aside0 (res = none) := ⟨by rw [HO2.out, HE.out, HSt.out _ (.inr g2)]; rfl⟩
                clear g2
                go_wp2_with fail
                refine HNx.out.mono ?_
                rintro e w5 ⟨rfl, hB⟩
                have B5 := Aside0.mk (B4.out.trans (hB.mono B4.out.size))
                clear hB
                go_wp2_with fail
                refine bodyPost_ret (v := .tuple #[.pointer none, .slice none 0 0, .int .i64 80]) (by simp [results, Try.results25, go_sem]) rfl (.inr ⟨HR.out, rfl, B5.out⟩)
            · have q1 : (er != 0) = true := by simp [g1]
              have HR : Aside0 (res = none) := ⟨by rw [HO2.out, HE.out, HSt.out _ (.inl g1)]; rfl⟩
              clear g1
              go_wp2_with fail
              refine bodyPost_ret (v := .tuple #[.pointer none, .slice none 0 0, .int .i64 80]) (by simp [results, Try.results25, go_sem]) rfl (.inr ⟨HR.out, rfl, B4.out⟩)
          · obtain rfl : k = K := by omega
            have HR : Aside0 (res = some ((⟨(i : Int), (T : Int), first, (k : Int), L.map fun l => l.length + 1⟩ : Jr), L)) := ⟨by
              rw [HO2.out, HE.out, Nat.sub_self]
              simp [loopJ]⟩
            obtain ⟨Ao, co, rfl⟩ := HS.out.o.slice
            go_wp2_with fail
            refine bodyPost_ret (v := .tuple #[.pointer (some ⟨jb, 0, none⟩), .slice Ao us.length co, .int .i64 0]) (by simp [results, Try.results25, go_sem]) rfl (.inl ⟨_, _, _, _, _, _, _, _, HR.out, rfl, HS.out, HB.out⟩)
  · have HB := Aside0.mk hB
    have HR : Aside0 (res = none) := ⟨by rw [HO.out, hJ]⟩
    clear hB hJ HO
    go_wp2_with fail
    refine bodyPost_ret (v := .tuple #[.pointer none, .slice none 0 0, .int .i64 80]) (by simp [results, Try.results25, go_sem]) rfl (.inr ⟨HR.out, rfl, HB.out⟩)
theorem open_calls (reg : List ByteArray) (A : Option Addr) (c : Nat) (w : World) (h : Strs w A reg) (hs : ∀ b ∈ reg, b.size ≤ 1125899906842624) :
    Calls Try.prog 25 #[.slice A reg.length c] w (OpPost w (openJ reg)) := by
  by_cases hn : reg.length < 8 ∨ 256 < reg.length
  · refine (open_no reg A c w hn).mono ?_
    rintro e w' ⟨rfl, hB⟩
    exact .inr ⟨by unfold openJ; rw [if_pos hn], rfl, hB⟩
  · exact open_yes reg A c w h hs (by omega) (by omega)
end Go.Proofs.Ytlmnfnkjbgnklaa.Jrnl
