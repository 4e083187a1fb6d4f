/- The walk of the law JournalTorn. -/
import Derived.Test.YtlmnfnkjbgnklaaCoreJournalWhole
set_option linter.unusedVariables false
set_option linter.unusedSimpArgs false
namespace Go.Proofs.Ytlmnfnkjbgnklaa.Jrnl
open Go.RowKit Go.Proofs.YtlmnfnkjbgnklaaW.PrintWords Go.Proofs.YtlmnfnkjbgnklaaW.PrintLast Go.Proofs.YtlmnfnkjbgnklaaW.PrintMore Go.Proofs.Ytlmnfnkjbgnklaa.Open
theorem opens_picks : Opens Try.prog 67 (Kd.slice 4 Kd.bool) (fun l => l.length ≤ 140737488351232) :=
  Opens.mono (opens_slice Try.underlying67 (opens_bool Try.underlying4) (by kernel_rfl) (by_ := 1) (by kernel_rfl)) (fun x h => by have := h.1; omega)
theorem picks_of {W : World} {A : Option Addr} {n cp : Nat} {l : List Bool} (h : (Kd.slice 4 Kd.bool).K W l [.slice A n cp]) : n = l.length ∧ Picks W A l := by
  obtain ⟨A1, c1, he, hcc, hC⟩ := h
  obtain ⟨rfl, rfl, rfl⟩ : A = A1 ∧ n = l.length ∧ cp = c1 := by simpa using he
  refine ⟨rfl, fun i hi => ?_⟩
  obtain ⟨ad, hA, hc⟩ := hC.2.2 (by omega)
  obtain ⟨c, hl, hk, hcell⟩ := hc i l[i] (List.getElem?_eq_getElem hi)
  have hk' : c = [.bool l[i]] := hk
  subst hk'
  have := hcell 0 _ rfl
  refine ⟨ad, hA, ?_⟩
  rw [show i * Kd.bool.sz + 0 = i from by rw [show Kd.bool.sz = 1 from rfl]; omega] at this
  exact this
end Go.Proofs.Ytlmnfnkjbgnklaa.Jrnl
namespace Go.Proofs.Ytlmnfnkjbgnklaa.Core
open Go.RowKit Go.Proofs.YtlmnfnkjbgnklaaW.PrintWords Go.Proofs.YtlmnfnkjbgnklaaW.PrintLast Go.Proofs.YtlmnfnkjbgnklaaW.PrintMore Go.Proofs.Ytlmnfnkjbgnklaa.TxnS Go.Proofs.Ytlmnfnkjbgnklaa.Txn Go.Proofs.Ytlmnfnkjbgnklaa.JS Go.Proofs.Ytlmnfnkjbgnklaa.Run Go.Proofs.Ytlmnfnkjbgnklaa.Jrnl
/-- What was played, and the journal that was opened, with its last writes. -/
structure TS (W w1 w : World) (g jb : Nat) (v u : Value) (us : List Value) (reg : List ByteArray) (J : Jr) (hs : List (List Ch)) (xb : Nat) (vx : Value) (Jx : Jr) (A : Option Addr) (c : Nat) (ws : List Ch) : Prop where
  p : PS W w g jb v u us reg J hs
  x : JIs w1.heap.size w xb vx Jx
  ch : Chs w A ws
  cw : ∀ k, rd (.slice A ws.length c) k → w1.heap.size ≤ k
  lo : ∀ k, (k = g ∨ fp jb v k ∨ u.ownBlock = some k) → k < w1.heap.size
  b1 : W.heap.size ≤ w1.heap.size
  s1 : w1.heap.size ≤ w.heap.size
section
variable {W w1 w w' : World} {g jb : Nat} {v u : Value} {us : List Value} {reg : List ByteArray} {J : Jr} {hs : List (List Ch)} {xb : Nat} {vx : Value} {Jx : Jr} {A : Option Addr} {c : Nat} {ws : List Ch}
theorem TS.below (h : TS W w1 w g jb v u us reg J hs xb vx Jx A c ws) (hb : Below w.heap.size w w') : TS W w1 w' g jb v u us reg J hs xb vx Jx A c ws :=
  ⟨h.p.below hb, h.x.below hb, h.ch.below hb, h.cw, h.lo, h.b1, Nat.le_trans h.s1 hb.size⟩
theorem TS.set (h : TS W w1 w g jb v u us reg J hs xb vx Jx A c ws) (i : Nat) (b : ByteArray) : TS W w1 (w.setCell ⟨g, i, none⟩ (.string b)) g jb v u us (reg.set i b) J hs xb vx Jx A c ws := by
  have hg := h.lo g (.inl rfl)
  exact ⟨h.p.setReg i b, h.x.step fun k hk => blk_set_ne i _ (fun e => by have := h.x.ge hk; omega), chs_step (c := c) h.ch fun k hk => blk_set_ne i _ (fun e => by have := h.cw k hk; omega), h.cw, h.lo, h.b1, by rw [show (w.setCell ⟨g, i, none⟩ (.string b)).heap.size = w.heap.size from by simp [World.setCell]]; exact h.s1⟩
theorem TS.app {r : List Ch × Int × Jr} {e : Ending} (h : TS W w1 w g jb v u us reg J hs xb vx Jx A c ws) (hp : APost w1.heap.size xb vx w r e w') : ∃ A' c' v', e = .returned (.tuple #[.slice A' r.1.length c', .int .i64 r.2.1]) ∧ TS W w1 w' g jb v u us reg J hs xb v' r.2.2 A' c' r.1 := by
  obtain ⟨u', v', he, hu, hj, hf, hp, hd⟩ := hp
  obtain ⟨A', c', rfl⟩ := own_slice hu
  have hk : ∀ k, k < w1.heap.size → w'.heap[k]? = w.heap[k]? := fun k hk => hf.block k (Nat.lt_of_lt_of_le hk h.s1) (fun hfp => by have := h.x.ge hfp; omega)
  refine ⟨A', c', v', he, ⟨⟨(hk g (h.lo g (.inl rfl))).trans h.p.rg, h.p.j.step fun k hkk => hk k (h.lo k (.inr (.inl hkk))), h.p.o.step fun k hkk => hk k (h.lo k (.inr (.inr hkk))), h.p.uo.step fun x hx k hkk => hk k (by have := h.p.d4 x hx k hkk; have := h.b1; omega), Fr.below h.p.b hf (fun k hkk => Nat.le_trans h.b1 (h.x.ge hkk)) h.p.b.size, h.p.g0, h.p.d1, h.p.d2, h.p.d3, h.p.d4⟩, hj, own_chs' hu rfl, fun k hkk => Nat.le_trans h.s1 (own_base hu k (own_rd hu k hkk)), h.lo, h.b1, Nat.le_trans h.s1 hf.size⟩⟩
end
/-- The journal behind so many empty transactions. -/
def Jq (J : Jr) (q : Nat) : Jr := { J with sizes := J.sizes ++ List.replicate q 1 }
theorem Jq_push (J : Jr) (q : Nat) : pushJ (Jq J q) 1 = Jq J (q + 1) := by
  unfold pushJ Jq
  simp [List.replicate_succ']
theorem Jq_sum (J : Jr) (q : Nat) : (Jq J q).sizes.sum = J.sizes.sum + q := by simp [Jq]
theorem right_nil : right [] := ⟨trivial, by decide⟩
theorem app_nil (J : Jr) : ((appJ J []).2.1 = 0 ∧ room J 0 ∧ appJ J [] = (wsJ J [], 0, pushJ J 1)) ∨ ((appJ J []).2.1 ≠ 0 ∧ (appJ J []).1 = []) := by
  by_cases h : room J 0
  · have e : appJ J [] = (wsJ J [], 0, pushJ J 1) := by
      unfold appJ
      rw [if_neg (fun e => e right_nil), if_neg (fun e => e h)]
      rfl
    exact .inl ⟨by rw [e], h, e⟩
  · have e : appJ J [] = ([], 5, J) := by
      unfold appJ
      rw [if_neg (fun e => e right_nil), if_pos (show ¬ room J ([] : List Ch).length from h)]
    exact .inr ⟨by rw [e]; show (5 : Int) ≠ 0; decide, by rw [e]⟩
theorem ws_nil (J : Jr) (ht : 0 ≤ J.tail) (hr : 7 ≤ J.ring) : ∃ b, wsJ J [] = [((((J.tail.toNat + J.sizes.sum) % J.ring.toNat + 1 : Nat) : Int), b)] := by
  refine ⟨headS (J.first + (J.sizes.length : Int)) [], ?_⟩
  have hp : (J.tail + ((J.sizes.sum : Nat) : Int)) % J.ring + 1 = (((J.tail.toNat + J.sizes.sum) % J.ring.toNat + 1 : Nat) : Int) := by
    generalize J.sizes.sum = s
    obtain ⟨a, ha⟩ : ∃ a : Nat, J.tail = a := ⟨J.tail.toNat, by omega⟩
    obtain ⟨r, hr'⟩ : ∃ r : Nat, J.ring = r := ⟨J.ring.toNat, by omega⟩
    rw [ha, hr', Int.toNat_natCast, Int.toNat_natCast]
    exact_mod_cast rfl
  rw [← hp]
  simp [wsJ, wsA, blocksL]
set_option maxHeartbeats 6400000 in
set_option maxRecDepth 100000 in
theorem journalTorn (W : World) (n : Int) (A : Option Addr) (l : List Stp) (cp : Nat) (hl : Stps W A l) (hg : ∀ s ∈ l, goodS s) (Ap : Option Addr) (cpp : Nat) (pk : List Bool) (hpk : Picks W Ap pk) (hpl : pk.length ≤ 140737488351232) :
    Calls Try.prog 7 #[.int .i64 n, .slice A l.length cp, .slice Ap pk.length cpp] W fun e W' => e = .returned (.bool true) ∧ Below W.heap.size W W' := by
  have hup := Try.underlying23
  have hus := Try.underlying33
  have huw := Try.underlying42
  have huc := Try.underlying69
  by_cases h300 : l.length > 300
  · have b300 : decide (l.length > 300) = true := decide_eq_true h300
    go_enter Try.func7, Try.ntmps7
    go_wp2_with fail
    refine (speaks_calls _).mono ?_
    rintro e w5 ⟨rfl, hb5⟩
    have B5 := Aside0.mk hb5
    clear hb5
    go_wp2_with fail
    go_ret
    exact ⟨rfl, B5.out⟩
  have b300 : decide (l.length > 300) = false := decide_eq_false h300
  by_cases hn : n < 8 ∨ 256 < n
  · have HN := Aside0.mk hn
    have hb : decide (n < 8) = true ∨ (decide (n < 8) = false ∧ decide (n > 256) = true) := by simp; omega
    clear hn
    go_enter Try.func7, Try.ntmps7
    go_wp2_with fail
    refine (played_no n _ _ W HN.out).mono ?_
    rintro e w1 ⟨rfl, hb1⟩
    have T1 := Aside0.mk hb1
    clear hb1
    rcases hb with b1 | ⟨b1, b2⟩
    all_goals
      go_wp2_with fail
      refine (speaks_calls _).mono ?_
      rintro e w5 ⟨rfl, hb5⟩
      have T5 := Aside0.mk (T1.out.trans (hb5.mono T1.out.size))
      clear hb5
      go_wp2_with fail
      go_ret
      exact ⟨rfl, T5.out⟩
  obtain ⟨m, rfl⟩ : ∃ m : Nat, n = m := ⟨n.toNat, by omega⟩
  have HPl := Aside0.mk (played_yes m (by omega) (by omega) W A l cp hl hg (by omega) Ap cpp pk hpk hpl)
  have HL := Aside0.mk hl
  have HG := Aside0.mk hg
  have hm8 : 8 ≤ m := by omega
  have hm256 : m ≤ 256 := by omega
  clear hl hg hn hpk
  go_enter Try.func7, Try.ntmps7
  go_wp2_with fail
  refine HPl.out.mono ?_
  rintro e w1 ⟨g, jb, v, Au, cu, us, reg, J, hs, u0, rfl, hP, hI, hlr⟩
  have P1 := Aside0.mk hP
  have I1 := Aside0.mk hI
  have HLr := Aside0.mk hlr
  have HO := Aside0.mk (fun w' (hb : Below w1.heap.size w1 w') => open_calls reg (some ⟨g, 0, none⟩) m w' (P1.out.below hb).rg.strs (strs_sz I1.out))
  rw [hlr] at HO
  have HK : Aside0 (J.sealed.toNat ≤ us.length ∧ us.length = hs.length) := ⟨by
    have h1 := hP.uo.1
    have := hI.ok.sn
    have := hI.slen
    exact ⟨by omega, h1⟩⟩
  clear hP hI hlr HPl
  obtain ⟨K, hK⟩ : ∃ K, K = J.sealed.toNat := ⟨_, rfl⟩
  have HKe := Aside0.mk hK
  rw [← hK]
  clear hK
  unfold ptr
  go_wp2_with fail
  refine (HO.out _ (Below.refl _ _)).mono ?_
  intro e w2 hp
  obtain ⟨xb, vx, A2, c2, us2, v8, rest, rfl, hO2, hB2⟩ := op_played I1.out hp
  have O2 := Aside0.mk hO2
  have B2 := Aside0.mk hB2
  have P2 := Aside0.mk (P1.out.below hB2)
  clear hp hO2 hB2 HO
  have hLl : (hs.take J.sealed.toNat).length = K := by rw [List.length_take, HKe.out]; have := HK.out; omega
  have HTold : Aside0 (∀ w' A3 c3 us3 reg3 (B3 : Nat), RowX w' B3 31 (.slice A3 K c3) us3 → UsOk w' us3 (hs.take J.sealed.toNat) → (∀ x ∈ us3, ∀ k, rd x k → k < w'.heap.size) → PS W w' g jb v (.slice Au hs.length cu) us reg3 J hs → Calls Try.prog 27 #[.slice A3 K c3, .slice Au K cu] w' fun e w'' => e = .returned (.bool true) ∧ Below w'.heap.size w' w'') := ⟨fun w' A3 c3 us3 reg3 B3 o1 o2 o3 p => by
    have h := told_yes (hs.take J.sealed.toNat) A3 Au c3 cu w' B3 _ us3 (us.take K) (by rw [hLl]; exact o1) o2 (by rw [hLl]; exact RowX_take p.o K (by rw [HKe.out]; exact HK.out.1)) (by rw [HKe.out]; exact p.uo.take _) (by rw [hLl]; have := I1.out.ok.sml.2; have := I1.out.slen; have := HK.out; have := HKe.out; omega) (fun l hl => by have := (I1.out.rt l (List.mem_of_mem_take hl)).2; omega) o3 (fun x hx k hk => by have := p.d4 x (List.mem_of_mem_take hx) k hk; have := p.b.size; omega)
    rwa [hLl] at h⟩
  have HT2 : Aside0 (Calls Try.prog 27 #[.slice A2 K c2, .slice Au K cu] w2 fun e w'' => e = .returned (.bool true) ∧ Below w2.heap.size w2 w'') := ⟨by
    have o := O2.out
    rw [hLl] at o
    exact HTold.out _ _ _ _ _ _ o.o o.uo (fun x hx k hk => (o.d3 x hx k hk).1) P2.out⟩
  have HLl := Aside0.mk hLl
  have HIs := Aside0.mk I1.out.sealed
  obtain ⟨J0, hJ0⟩ : ∃ J0, J0 = sealedJ J := ⟨_, rfl⟩
  have hx2 := O2.out.j
  rw [← hJ0] at HIs hx2
  have HJ0 := Aside0.mk hJ0
  rw [hLl]
  clear hLl hJ0
  have X2 : Aside0 (TS W w1 w2 g jb v (.slice Au hs.length cu) us reg J hs xb vx J0 none 0 []) := ⟨⟨P2.out, hx2, Chs.nil _ _, (fun k hk => absurd hk id), fun k hk => by
    rcases hk with rfl | hk | hk
    · exact P1.out.glt
    · exact P1.out.j.lt hk
    · exact P1.out.o.lt k hk, P1.out.b.size, B2.out.size⟩⟩
  clear hx2 P2 O2 B2
  unfold ptr
  go_wp2_with fail
  refine HT2.out.mono ?_
  rintro e w3 ⟨rfl, hB⟩
  have X3 := Aside0.mk (X2.out.below hB)
  clear hB X2 HT2
  have HFr := Aside0.mk (free_calls X3.out.x HIs.out.ok)
  unfold ptr at HFr
  obtain ⟨fr, hfr⟩ : ∃ fr, fr = J0.ring - ((J0.sizes.sum : Nat) : Int) := ⟨_, rfl⟩
  rw [← hfr] at HFr
  have HFr0 := Aside0.mk hfr
  clear hfr
  go_wp2_with fail
  refine HFr.out.mono ?_
  rintro e w4 ⟨rfl, hB⟩
  have X4 := Aside0.mk (X3.out.below hB)
  clear hB X3 HFr
  go_wp2_with fail
  have X5 := Aside0.mk (X4.out.below (below_alloc (Below.refl w4.heap.size w4) (.cells #[] 69)))
  have HAp : Aside0 (∀ (w' : World) q (v' : Value) reg' A' c' ws', TS W w1 w' g jb v (.slice Au hs.length cu) us reg' J hs xb v' (Jq J0 q) A' c' ws' → JW (Jq J0 q) → ∀ ad, Calls Try.prog 11 #[ptr xb, .slice (some ad) 0 0] w' (fun e w'' => ∃ A2 c2 v2, e = .returned (.tuple #[.slice A2 (appJ (Jq J0 q) []).1.length c2, .int .i64 (appJ (Jq J0 q) []).2.1]) ∧ TS W w1 w'' g jb v (.slice Au hs.length cu) us reg' J hs xb v2 (appJ (Jq J0 q) []).2.2 A2 c2 (appJ (Jq J0 q) []).1)) := ⟨fun w' q v' reg' A' c' ws' h hw ad => by
    refine (append_calls h.x hw (by have := h.s1; omega) [] (some ad) 0 (Chs.nil _ _) (by simp)).mono fun e w'' hp => ?_
    exact h.app hp⟩
  unfold ptr at HAp
  have hJ00 : Jq J0 0 = J0 := by simp [Jq]
  have hX5 : TS W w1 (w4.alloc (.cells #[] 69)) g jb v (.slice Au hs.length cu) us reg J hs xb vx (Jq J0 0) none 0 [] := by rw [hJ00]; exact X5.out
  have hW0 : JW (Jq J0 0) := by rw [hJ00]; exact HIs.out.ok
  have HA0 := Aside0.mk (HAp.out _ 0 _ _ _ _ _ hX5 hW0 ⟨w4.heap.size, 0, none⟩)
  have HW0 := Aside0.mk hW0
  clear X5 hX5 hJ00 X4 hW0
  refine HA0.out.mono ?_
  rintro e w5 ⟨A6, c6, v6, rfl, hX6⟩
  have X6 := Aside0.mk hX6
  clear hX6 HA0
  go_wp2_with fail
  go_loopw [14, 15, 16] (fun v14 v15 v16 wr => ∃ (q : Nat) (reg' : List ByteArray) (A' : Option Addr) (c' : Nat) (v' : Value), q ≤ l.length ∧ v16 = .int .i64 (q : Int) ∧ v15 = .int .i64 (appJ (Jq J0 q) []).2.1 ∧ v14 = .slice A' (appJ (Jq J0 q) []).1.length c' ∧ Aside0 (TS W w1 wr g jb v (.slice Au hs.length cu) us reg' J hs xb v' (appJ (Jq J0 q) []).2.2 A' c' (appJ (Jq J0 q) []).1) ∧ Aside0 (PI J0 (hs.take J.sealed.toNat) reg' J0.sizes.sum) ∧ Aside0 (JW (Jq J0 q)) ∧ Aside0 (reg'.length = m)) (fun _ _ x _ => l.length - (intOf x).toNat)
  case atStart => exact ⟨0, reg, _, _, _, by omega, rfl, rfl, rfl, X6, HIs, HW0, HLr⟩
  case round =>
    clear X6 HW0
    obtain ⟨q, reg', A', c', v', hq, rfl, rfl, rfl, HX, HI, HW, HRl⟩ := hrel
    have hJring : J0.ring = (m : Int) - 1 := by have := HI.out.len; have := HRl.out; have := HI.out.ok.r7; omega
    have hex : ∀ w', Below wr.heap.size wr w' → PS W w' g jb v (.slice Au hs.length cu) us reg' J hs := fun w' hb => (HX.out.below hb).p
    have hdone : Aside0 (∀ w', Below wr.heap.size wr w' → Calls Try.prog 25 #[.slice (some ⟨g, 0, none⟩) m m] w' (OpPost w' (openJ reg'))) := ⟨fun w' hb => by
      have := open_calls reg' (some ⟨g, 0, none⟩) m w' (hex w' hb).rg.strs (strs_sz HI.out)
      rwa [HRl.out] at this⟩
    have htk : (hs.take J.sealed.toNat).take J0.sealed.toNat = hs.take J.sealed.toNat := by
      rw [HJ0.out, show (sealedJ J).sealed = J.sealed from rfl, List.take_take, Nat.min_self]
    have HTk := Aside0.mk htk
    clear htk hex
    by_cases hA : (appJ (Jq J0 q) []).2.1 = 0 ∧ q < l.length
    · obtain ⟨z, hql⟩ := hA
      have hrm : room (Jq J0 q) 0 ∧ appJ (Jq J0 q) [] = (wsJ (Jq J0 q) [], 0, pushJ (Jq J0 q) 1) := by
        rcases app_nil (Jq J0 q) with ⟨-, h⟩ | ⟨z2, -⟩
        · exact h
        · exact absurd z z2
      obtain ⟨rm, ex⟩ := hrm
      obtain ⟨b, hb⟩ := ws_nil (Jq J0 q) HW.out.t0 HW.out.r7
      have hx1 : (appJ (Jq J0 q) []).1 = [(((((Jq J0 q).tail.toNat + (Jq J0 q).sizes.sum) % (Jq J0 q).ring.toNat + 1 : Nat) : Int), b)] := by rw [ex]; exact hb
      have hx3 : (appJ (Jq J0 q) []).2.2 = Jq J0 (q + 1) := by rw [ex]; exact Jq_push J0 q
      have hW1 : JW (Jq J0 (q + 1)) := by rw [← Jq_push]; exact pushJ_ok HW.out 0 rm
      have hrs : (J0.sizes.sum : Int) + q + 1 ≤ J0.ring := by
        have h1 := rm.1
        rw [Jq_sum, show (Jq J0 q).ring = J0.ring from rfl] at h1
        omega
      rw [Jq_sum, show (Jq J0 q).ring = J0.ring from rfl, show (Jq J0 q).tail = J0.tail from rfl] at hx1
      obtain ⟨p, hp⟩ : ∃ p, p = (J0.tail.toNat + (J0.sizes.sum + q)) % J0.ring.toNat := ⟨_, rfl⟩
      rw [← hp] at hx1
      have hpm : p < J0.ring.toNat := by rw [hp]; exact Nat.mod_lt _ (by omega)
      have hpi : p + 1 < m := by omega
      rw [hx1, hx3] at HX
      rw [hx1, z]
      rw [List.length_singleton]
      have HJk : Aside0 (∀ (d : ByteArray) (reg2 : List ByteArray), PI J0 (hs.take J.sealed.toNat) reg2 J0.sizes.sum → d.size = 128 → PI J0 (hs.take J.sealed.toNat) (reg2.set (p + 1) d) J0.sizes.sum) := ⟨fun d reg2 h hd => by
        have := h.junk (o := J0.sizes.sum + q) (b := d) (by omega) (by omega) hd
        rwa [← hp] at this⟩
      have HW1 := Aside0.mk hW1
      have y1 : decide ((q : Int) < fr) = true := decide_eq_true (by rw [HFr0.out]; omega)
      have y2 : decide (q < l.length) = true := decide_eq_true hql
      clear z rm ex hb hx1 hx3 hW1 hrs hp
      go_wp2_with fail
      go_loopw [88] (fun v88 wq => ∃ (j : Nat) (reg2 : List ByteArray), j ≤ 1 ∧ v88 = .int .i64 (j : Int) ∧ Aside0 (TS W w1 wq g jb v (.slice Au hs.length cu) us reg2 J hs xb v' (Jq J0 (q + 1)) A' c' [(((p + 1 : Nat) : Int), b)]) ∧ Aside0 (PI J0 (hs.take J.sealed.toNat) reg2 J0.sizes.sum) ∧ Aside0 (reg2.length = m)) (fun x _ => 1 - (intOf x).toNat)
      case atStart => exact ⟨0, reg', by omega, rfl, HX, HI, HRl⟩
      case round =>
        clear HX HI HRl hdone
        obtain ⟨j, reg2, hj, rfl, HX, HI, HRl⟩ := hrel
        by_cases hj1 : j < 1
        · obtain rfl : j = 0 := by omega
          obtain ⟨adw, rfl, e0, e1⟩ := HX.out.ch 0 (by simp)
          have e0' : wr.cell? adw = some (.int .i64 ((p : Int) + 1)) := by
            have h : adw.add (0 * 2) = adw := by unfold Addr.add; simp
            rw [h] at e0
            exact e0
          have e1' : wr.cell? ⟨adw.block, adw.off + 1, none⟩ = some (.string b) := by
            have h : adw.add (0 * 2) = adw := by unfold Addr.add; simp
            rw [h] at e1
            exact e1
          obtain ⟨ad, A9, c9, rfl, hcell, hch, hrd0⟩ := stps_at HL.out HX.out.p.b q hql
          have hgs := HG.out _ (List.getElem_mem hql)
          generalize l[q] = s at hcell hch hgs hrd0
          obtain ⟨-, -, f2⟩ := stp_cells hcell
          have X0 := Aside0.mk (blk_new wr (.cells #[.int .i64 ((p : Int) + 1), .string b] 42))
          have BX := Aside0.mk (below_alloc (Below.refl wr.heap.size wr) (.cells #[.int .i64 ((p : Int) + 1), .string b] 42))
          have SX := Aside0.mk (HX.out.below BX.out)
          have CX := Aside0.mk (hch.below BX.out)
          have f2x := (World.cell?_of_block (BX.out.block _ (World.block_lt_of_cell? wr _ f2))).trans f2
          clear e0 e1 hcell hch hgs hrd0
          go_upto_region 17 with fail
          generalize wr.alloc (.cells #[.int .i64 ((p : Int) + 1), .string b] 42) = w9 at X0 BX SX CX f2x ⊢
          generalize wr.heap.size = g9 at X0 ⊢
          clear e0' e1' f2 HX
          have x0 := (blk_cell X0.out 0).trans (Eq.refl (some (Value.int .i64 ((p : Int) + 1))))
          have z1 : decide ((p : Int) + 1 ≥ 1) = true := decide_eq_true (by omega)
          have z2 : decide ((p : Int) + 1 < (m : Int)) = true := decide_eq_true (by omega)
          have z3 : ((p : Int) + 1).toNat = p + 1 := by omega
          have z4 : (0 : Int) ≤ (p : Int) + 1 := by omega
          have z5 : (p : Int) + 1 < (m : Int) := by omega
          have hql3 : (q : Int) < (l.length : Int) := by omega
          by_cases hs0 : s.l.length = 0
          · have q1 : decide ((s.l.length : Int) > 0) = false := decide_eq_false (by omega)
            have q1' : decide (0 < s.l.length) = false := decide_eq_false (by omega)
            have q1'' : ¬ 0 < s.l.length := by omega
            clear hs0
            go_wp2_with fail
            go_roundw
            case rel => exact ⟨1, reg2, by omega, by simp, SX, HI, HRl⟩
            case measure => simp [intOf]
          · have hs1 : 0 < s.l.length := by omega
            obtain ⟨ad9, rfl, d0, d1⟩ := CX.out 0 hs1
            have d1' : w9.cell? ⟨ad9.block, ad9.off + 1, none⟩ = some (.string (s.l[0]'hs1).2) := by
              have h : ad9.add (0 * 2) = ad9 := by unfold Addr.add; simp
              rw [h] at d1
              exact d1
            generalize (s.l[0]'hs1).2 = d at d1'
            clear d0 d1
            have q1 : decide ((s.l.length : Int) > 0) = true := decide_eq_true (by omega)
            have q1' : decide (0 < s.l.length) = true := decide_eq_true hs1
            have q1'' : (0 : Int) < (s.l.length : Int) := by omega
            by_cases hd : d.size = 128
            · have q2 : ((d.size : Int) == 128) = true := by simp [hd]
              obtain ⟨o, ho⟩ : ∃ o, reg2[p + 1]? = some o := ⟨_, List.getElem?_eq_getElem (by rw [HRl.out]; exact hpi)⟩
              have k1 := SX.out.p.rg.cell ho
              have kf := blk_frozen SX.out.p.rg (p + 1)
              have S10 : Aside0 (TS W w1 (w9.setCell ⟨g, p + 1, none⟩ (.string d)) g jb v (.slice Au hs.length cu) us (reg2.set (p + 1) d) J hs xb v' (Jq J0 (q + 1)) (some adw) c' [(((p + 1 : Nat) : Int), b)]) := ⟨SX.out.set (p + 1) d⟩
              have S11 : Aside0 (TS W w1 (w9.setCell ⟨g, p + 1, none⟩ (.string d)).drew g jb v (.slice Au hs.length cu) us (reg2.set (p + 1) d) J hs xb v' (Jq J0 (q + 1)) (some adw) c' [(((p + 1 : Nat) : Int), b)]) := ⟨S10.out.below (below_drew1 (Below.refl _ _))⟩
              have I10 := Aside0.mk (HJk.out d reg2 HI.out hd)
              have L10 : Aside0 ((reg2.set (p + 1) d).length = m) := ⟨by rw [List.length_set]; exact HRl.out⟩
              clear hd ho hs0
              go_wp2_with fail
              go_region
              all_goals
                go_wp2_with fail
                go_roundw
                case rel => exact ⟨1, _, by omega, by simp, by first | exact S11 | exact S10, I10, L10⟩
                case measure => simp [intOf]
            · have q2 : ((d.size : Int) == 128) = false := by simp; omega
              clear hd hs0
              go_wp2_with fail
              go_roundw
              case rel => exact ⟨1, reg2, by omega, by simp, SX, HI, HRl⟩
              case measure => simp [intOf]
        · obtain rfl : j = 1 := by omega
          have hX8 := HX.out.below (below_alloc (Below.refl wr.heap.size wr) (.cells #[] 69))
          have HA8 := Aside0.mk (HAp.out _ (q + 1) _ _ _ _ _ hX8 HW1.out ⟨wr.heap.size, 0, none⟩)
          clear hX8
          go_wp2_with fail
          refine HA8.out.mono ?_
          rintro e w8 ⟨A7, c7, v7, rfl, hX7⟩
          have X7 := Aside0.mk hX7
          clear hX7 HA8
          go_wp2_with fail
          go_roundw
          case rel => exact ⟨q + 1, reg2, _, _, _, by omega, by simp, rfl, rfl, X7, HI, HW1, HRl⟩
          case measure => simp [intOf]; omega
    · have hcase : ((appJ (Jq J0 q) []).2.1 == 0) = false ∨ (((appJ (Jq J0 q) []).2.1 == 0) = true ∧ (decide ((q : Int) < fr) = true ∨ decide ((q : Int) < fr) = false) ∧ decide (q < l.length) = false) := by
        by_cases z : (appJ (Jq J0 q) []).2.1 = 0
        · refine .inr ⟨by simp [z], ?_, decide_eq_false fun h => hA ⟨z, h⟩⟩
          by_cases h : (q : Int) < fr
          · exact .inl (decide_eq_true h)
          · exact .inr (decide_eq_false h)
        · exact .inl (by simp [z])
      clear hA
      generalize appJ (Jq J0 q) [] = x at *
      have hcase2 : (x.2.1 == 0) = false ∨ ((x.2.1 == 0) = true ∧ decide ((q : Int) < fr) = true ∧ decide (q < l.length) = false) ∨ ((x.2.1 == 0) = true ∧ decide ((q : Int) < fr) = false ∧ decide (q < l.length) = false) := by
        rcases hcase with h | ⟨h1, h2 | h2, h3⟩
        · exact .inl h
        · exact .inr (.inl ⟨h1, h2, h3⟩)
        · exact .inr (.inr ⟨h1, h2, h3⟩)
      clear hcase
      rcases hcase2 with z1 | ⟨z1, z2, z3⟩ | ⟨z1, z2, z3⟩
      all_goals
        go_wp2_with fail
        refine (hdone.out _ (Below.refl _ _)).mono ?_
        intro e w7 hp
        obtain ⟨xb2, vx2, A3, c3, us3, v83, rest3, rfl, hO3, hB3⟩ := op_played HI.out hp
        rw [HTk.out] at hO3
        rw [HTk.out, HLl.out]
        rw [HLl.out] at hO3
        have HT3 : Aside0 (Calls Try.prog 27 #[.slice A3 K c3, .slice Au K cu] w7 fun e w'' => e = .returned (.bool true) ∧ Below w7.heap.size w7 w'') := ⟨HTold.out _ _ _ _ _ _ hO3.o hO3.uo (fun x hx k hk => (hO3.d3 x hx k hk).1) (HX.out.below hB3).p⟩
        have BW := Aside0.mk (HX.out.below hB3).p.b
        clear hp hO3 hB3
        unfold ptr
        go_wp2_with fail
        refine HT3.out.mono ?_
        rintro e w8 ⟨rfl, hB⟩
        have B8 := Aside0.mk (BW.out.trans (hB.mono BW.out.size))
        clear hB
        go_wp2_with fail
        refine (speaks_calls _).mono ?_
        rintro e w9 ⟨rfl, hB⟩
        have B9 := Aside0.mk (B8.out.trans (hB.mono B8.out.size))
        clear hB
        go_wp2_with fail
        go_ret
        exact ⟨rfl, B9.out⟩
theorem JournalTorn (W : World) (n : Int) (hw : (Lit.int .i64 n).wf = true) (A : Option Addr) (m cp : Nat) (l : List Stp) (h : (Kd.slice 33 stpK).K W l [.slice A m cp]) (hg : ∀ s ∈ l, goodS s) (Ap : Option Addr) (mp cpp : Nat) (pk : List Bool) (hp : (Kd.slice 4 Kd.bool).K W pk [.slice Ap mp cpp]) (gp : pk.length ≤ 140737488351232) :
    Calls Try.prog 7 #[.int .i64 n, .slice A m cp, .slice Ap mp cpp] W fun e W' => e = .returned (.bool true) ∧ Below W.heap.size W W' := by
  obtain ⟨rfl, hs⟩ := stps_of h
  obtain ⟨rfl, hk⟩ := picks_of hp
  exact journalTorn W n A l cp hs hg Ap cpp pk hk gp
end Go.Proofs.Ytlmnfnkjbgnklaa.Core
