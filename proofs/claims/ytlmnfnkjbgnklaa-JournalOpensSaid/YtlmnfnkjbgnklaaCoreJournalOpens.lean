/- What a header says, as the document reads it: plain. A journal's region, opened by the document. The walk of the law JournalOpens. -/
import Derived.Test.YtlmnfnkjbgnklaaJOpenH
import Derived.Test.YtlmnfnkjbgnklaaRefDec
import Derived.Test.YtlmnfnkjbgnklaaJOpenW
import Derived.Test.YtlmnfnkjbgnklaaPlayed
import Derived.Test.YtlmnfnkjbgnklaaJrnlDuo
section
/- What a header says, as the document reads it: plain. -/
set_option linter.unusedVariables false
set_option linter.unusedSimpArgs false
namespace Go.Proofs.Ytlmnfnkjbgnklaa.JS
open Go.RowKit Go.Proofs.YtlmnfnkjbgnklaaW.PrintWords Go.Proofs.Ytlmnfnkjbgnklaa.Spec Go.Proofs.Ytlmnfnkjbgnklaa.TxnS Go.Proofs.Ytlmnfnkjbgnklaa.C
theorem cut_h (s : ByteArray) : ((cutS s aitch).2 = true ↔ 1 ≤ s.size ∧ bN s 0 = 72) ∧ ((cutS s aitch).2 = true → (cutS s aitch).1 = s.extract 1 s.size) := by
  have ht : aitch.size = 1 := rfl
  have key : 1 ≤ s.size → (s.extract 0 1 = aitch ↔ bN s 0 = 72) := fun h => by
    have h0 : 0 < s.data.toList.length := by rw [Array.length_toList]; exact h
    obtain ⟨b, t, e⟩ : ∃ b t, s.data.toList = b :: t := by
      cases hc : s.data.toList with
      | nil => rw [hc] at h0; simp at h0
      | cons b t => exact ⟨b, t, rfl⟩
    have e1 : (s.extract 0 1).data.toList = [b] := by rw [Go.Lib.extract_data, e]; simp
    have e2 : bN s 0 = b.toNat := by unfold bN; rw [e]; rfl
    rw [e2]
    constructor
    · intro hh
      rw [hh] at e1
      have : [(72 : UInt8)] = [b] := e1
      obtain rfl := List.cons.inj this |>.1
      rfl
    · intro hh
      apply data_inj
      rw [e1]
      show [b] = [(72 : UInt8)]
      congr 1
      exact UInt8.toNat_inj.1 hh
  unfold cutS
  rw [ht]
  by_cases h1 : 1 ≤ s.size
  · by_cases h2 : s.extract 0 1 = aitch
    · rw [if_pos ⟨h1, h2⟩]
      exact ⟨⟨fun _ => ⟨h1, (key h1).1 h2⟩, fun _ => rfl⟩, fun _ => rfl⟩
    · rw [if_neg (fun h => h2 h.2)]
      exact ⟨⟨fun h => (by cases h), fun h => absurd ((key h1).2 h.2) h2⟩, fun h => (by cases h)⟩
  · rw [if_neg (fun h => h1 h.1)]
    exact ⟨⟨fun h => (by cases h), fun h => absurd h.1 h1⟩, fun h => (by cases h)⟩
theorem num_le (l : List UInt8) (n : Nat) (h : l.length = n) : (strOfNums (le (num l : Int) n)).data.toList = l := by subst h; exact le_num l
/-- A header's three numbers, as they are read. -/
def rA (t : ByteArray) := readS t 0 2
def rF (t : ByteArray) := readS (rA t).2.2.1 (rA t).2.2.2 8
def rX (t : ByteArray) := readS (rF t).2.2.1 (rF t).2.2.2 8
theorem hdJ_eq (t : ByteArray) (n : Int) : hdJ t n = (⟨n - 1, (rA t).1, (rF t).1, (rX t).1 - (rF t).1, []⟩, decide (endS (rX t).2.2.1 (rX t).2.2.2 = 0 ∧ (rA t).1 < n - 1 ∧ 1 ≤ (rF t).1 ∧ (rF t).1 ≤ 1099511627776 ∧ (rF t).1 ≤ (rX t).1 ∧ (rX t).1 - (rF t).1 ≤ n - 1)) := rfl
/-- 18 bytes, read. -/
theorem read18 {t : ByteArray} (ht : t.size = 18) (h1 : (rF t).2.1 = 0) (h2 : (rX t).2.1 = 0) :
    endS (rX t).2.2.1 (rX t).2.2.2 = 0 ∧ t = strOfNums (le (rA t).1 2 ++ le (rF t).1 8 ++ le (rX t).1 8) := by
  have e1 : rA t = ((num (t.data.toList.take 2) : Int), 0, t.extract 2 t.size, 0) := readS_go t 2 (by omega) (by
    rw [take2 t (by omega)]
    have := bN_lt t 0
    have := bN_lt t 1
    omega)
  unfold rX at h2 ⊢
  unfold rF at h1 h2 ⊢
  rw [e1] at h1 h2 ⊢
  dsimp only at h1 h2 ⊢
  obtain ⟨_, _, e2⟩ := readS_ok ((readS_err (t.extract 2 t.size) 8).1 h1)
  rw [e2] at h2 ⊢
  dsimp only at h2 ⊢
  rw [ext_ext] at h2 ⊢
  obtain ⟨_, _, e3⟩ := readS_ok ((readS_err (t.extract (2 + 8) t.size) 8).1 h2)
  rw [e3]
  dsimp only
  rw [ext_ext]
  refine ⟨?_, ?_⟩
  · unfold endS
    rw [if_neg (by simp), if_pos (by rw [ext_size]; omega)]
  · have hl : t.data.toList.length = 18 := by rw [Array.length_toList]; exact ht
    apply data_inj
    rw [← strOfNums_append, ← strOfNums_append]
    simp only [ByteArray.data_append, Array.toList_append]
    rw [num_le _ 2 (by rw [List.length_take]; omega), num_le _ 8 (by rw [List.length_take, Go.Lib.extract_data, List.length_take, List.length_drop]; omega), num_le _ 8 (by rw [List.length_take, Go.Lib.extract_data, List.length_take, List.length_drop]; omega)]
    rw [Go.Lib.extract_data, Go.Lib.extract_data, ht, List.take_take, List.take_take]
    have a1 := (List.take_append_drop 2 t.data.toList).symm
    have a2 := (List.take_append_drop 8 (t.data.toList.drop 2)).symm
    rw [List.drop_drop] at a2
    have a3 : (t.data.toList.drop (2 + 8)).take 8 = t.data.toList.drop (2 + 8) := List.take_of_length_le (by rw [List.length_drop]; omega)
    rw [show min 8 (18 - 2) = 8 from rfl, show min 8 (18 - (2 + 8)) = 8 from rfl]
    rw [a3, List.append_assoc, ← a2]
    exact a1
theorem read18_end {t : ByteArray} (h : endS (rX t).2.2.1 (rX t).2.2.2 = 0) : t.size = 18 ∧ (rF t).2.1 = 0 ∧ (rX t).2.1 = 0 := by
  have e0 : (rX t).2.2.2 = 0 := by
    unfold endS at h
    split at h
    · rename_i hne; exact absurd h hne
    · rename_i hne; exact Decidable.not_not.1 hne
  obtain ⟨k1, k2, k3⟩ := readS_ok (show (readS (rF t).2.2.1 (rF t).2.2.2 8).2.2.2 = 0 from e0)
  obtain ⟨k4, k5, k6⟩ := readS_ok (show (readS (rA t).2.2.1 (rA t).2.2.2 8).2.2.2 = 0 from k1)
  obtain ⟨_, k7, k8⟩ := readS_ok (show (readS t 0 2).2.2.2 = 0 from k4)
  have k3 : rX t = _ := k3
  have k6 : rF t = _ := k6
  have k8 : rA t = _ := k8
  refine ⟨?_, by rw [k6], by rw [k3]⟩
  rw [k3] at h
  rw [k6] at h k2
  rw [k8] at h k2 k5
  dsimp only at h k2 k5
  rw [ext_ext] at h k2
  rw [ext_ext] at h
  rw [ext_size] at k2 k5
  unfold endS at h
  rw [if_neg (by simp)] at h
  have hz : (t.extract (2 + 8 + 8) t.size).size = 0 := by
    split at h
    · assumption
    · cases h
  rw [ext_size] at hz
  omega
/-- The rest of a header's text. -/
def uT (b : ByteArray) : ByteArray := (unblockS b).1.extract 1 (unblockS b).1.size
/-- What the document asks of a header. -/
structure ROk (b : ByteArray) (n : Int) : Prop where
  e : (unblockS b).2 = 0
  s19 : (unblockS b).1.size = 19
  f : (rF (uT b)).2.1 = 0
  g : (rX (uT b)).2.1 = 0
  j : (rF (uT b)).1 ≤ (rX (uT b)).1 ∧ (rX (uT b)).1 - (rF (uT b)).1 ≤ n - 1 ∧ (rA (uT b)).1 < n - 1 ∧ 1 ≤ (rF (uT b)).1 ∧ (rF (uT b)).1 ≤ 1099511627776
  h : headJ (hdJ (uT b) n).1 = b
theorem split1 (s : ByteArray) (h : 1 ≤ s.size) : s = s.extract 0 1 ++ s.extract 1 s.size := (split_at s 1 h).symm
theorem bN_h (x : ByteArray) : bN ((⟨#[72]⟩ : ByteArray) ++ x) 0 = 72 := by
  unfold bN
  rw [ByteArray.data_append, Array.toList_append]
  rfl
theorem head_text (t : ByteArray) (n : Int) (h : t = strOfNums (le (rA t).1 2 ++ le (rF t).1 8 ++ le (rX t).1 8)) : headTx (hdJ t n).1 = aitch ++ t := by
  rw [hdJ_eq]
  unfold headTx
  dsimp only
  rw [show (rF t).1 + ((rX t).1 - (rF t).1) = (rX t).1 by omega]
  rw [← h]
  rfl
theorem ref_yes {b : ByteArray} {n : Int} (h : ROk b n) : opJ b n = some (hdJ (uT b) n).1 := by
  have ht : (uT b).size = 18 := by unfold uT; rw [ext_size, h.s19]
  obtain ⟨r1, r2⟩ := read18 ht h.f h.g
  have hb := Go.Proofs.Ytlmnfnkjbgnklaa.Ev.unblock_block (headTx (hdJ (uT b) n).1) (by rw [headTx_size]; omega)
  have hh : (blockS (headTx (hdJ (uT b) n).1)).1 = b := h.h
  rw [hh] at hb
  have h0 : bN (unblockS b).1 0 = 72 := by
    rw [hb, head_text _ n r2]
    exact bN_h _
  obtain ⟨c1, c2⟩ := cut_h (unblockS b).1
  have hc := c1.2 ⟨by have := h.s19; omega, h0⟩
  have hcc : (cutS (unblockS b).1 aitch).1 = uT b := c2 hc
  unfold opJ
  rw [if_neg (by rintro (x | x); exact x h.e; rw [hc] at x; cases x), hcc]
  have hd : (hdJ (uT b) n).2 = true := by
    rw [hdJ_eq]
    obtain ⟨j1, j2, j3, j4, j5⟩ := h.j
    exact decide_eq_true ⟨r1, j3, j4, j5, j1, j2⟩
  rw [if_pos hd]
theorem ref_no {b : ByteArray} {n : Int} (h : ¬ ROk b n) : opJ b n = none := by
  unfold opJ
  obtain ⟨c1, c2⟩ := cut_h (unblockS b).1
  by_cases h1 : (unblockS b).2 ≠ 0 ∨ (cutS (unblockS b).1 aitch).2 = false
  · rw [if_pos h1]
  · rw [if_neg h1]
    have he : (unblockS b).2 = 0 := Decidable.not_not.1 fun x => h1 (.inl x)
    have hc : (cutS (unblockS b).1 aitch).2 = true := by
      cases hc : (cutS (unblockS b).1 aitch).2 with
      | true => rfl
      | false => exact absurd (.inr hc) h1
    have hcc : (cutS (unblockS b).1 aitch).1 = uT b := c2 hc
    rw [hcc]
    rw [if_neg]
    intro hd
    rw [hdJ_eq] at hd
    obtain ⟨d0, d1, d2, d3, d4, d5⟩ := of_decide_eq_true hd
    obtain ⟨z1, z2, z3⟩ := read18_end d0
    obtain ⟨_, r2⟩ := read18 z1 z2 z3
    have hs1 := (c1.1 hc).1
    have h72 := (c1.1 hc).2
    have hsz : (unblockS b).1.size = 19 := by unfold uT at z1; rw [ext_size] at z1; omega
    have hub : (blockS (unblockS b).1).1 = b := (unblock_says (Prod.ext rfl he : unblockS b = ((unblockS b).1, 0))).1
    refine h ⟨he, hsz, z2, z3, ⟨d4, d5, d1, d2, d3⟩, ?_⟩
    have hp : (unblockS b).1.extract 0 1 = aitch := by
      have := hc
      unfold cutS at this
      by_cases hx : aitch.size ≤ (unblockS b).1.size ∧ (unblockS b).1.extract 0 aitch.size = aitch
      · exact hx.2
      · rw [if_neg hx] at this; cases this
    have hs := split1 (unblockS b).1 hs1
    rw [hp] at hs
    unfold headJ
    rw [head_text _ n r2]
    have e2 : aitch ++ uT b = (unblockS b).1 := hs.symm
    rw [e2]
    exact hub
end Go.Proofs.Ytlmnfnkjbgnklaa.JS
end

section
/- A journal's region, opened by the document. -/
set_option linter.unusedVariables false
set_option linter.unusedSimpArgs false
namespace Go.Proofs.Ytlmnfnkjbgnklaa.Jrnl
open Go.RowKit Go.Proofs.YtlmnfnkjbgnklaaW.PrintWords Go.Proofs.YtlmnfnkjbgnklaaW.PrintLast Go.Proofs.YtlmnfnkjbgnklaaW.PrintMore Go.Proofs.Ytlmnfnkjbgnklaa.TxnS Go.Proofs.Ytlmnfnkjbgnklaa.Txn Go.Proofs.Ytlmnfnkjbgnklaa.JS Go.Proofs.Ytlmnfnkjbgnklaa.Run Go.Proofs.Ytlmnfnkjbgnklaa.Spec Go.Proofs.Ytlmnfnkjbgnklaa.C
section
variable {B : Nat} {w w6 : World} {rb : Nat} {v v7 : Value} {us : List Value} {R : RJ}
theorem RIs.push {A : Option Addr} {l : List Ch} {c : Nat} (h : RIs B w rb v us R) (hr : RowX w6 B 31 v7 (us ++ [.slice A l.length c])) (hg : w.grownBy w6 v.ownBlock) (ho : v7.ownBlock = v.ownBlock ∨ v7.ownBlock = some w.heap.size) (hc : Chs w A l) (hl : ∀ k, rd (.slice A l.length c) k → k < w.heap.size ∧ ¬ fp rb v k) : RIs B (w6.setCell ⟨rb, 4, none⟩ v7) rb v7 (us ++ [.slice A l.length c]) (pushR R l) := by
  have hlt : rb < w.heap.size := h.lt (.inl rfl)
  have hne : v7.ownBlock ≠ some rb := fun e => by
    rcases ho with e1 | e1
    · exact h.ne (Eq.trans (Eq.symm e1) e)
    · have := Option.some.inj (Eq.trans (Eq.symm e1) e); omega
  have hlo : ∀ u ∈ us ++ [.slice A l.length c], ∀ k, rd u k → k < w.heap.size ∧ ¬ fp rb v k := fun u hm k hk => by
    rcases List.mem_append.1 hm with hm | hm
    · exact h.lo u hm k hk
    · obtain rfl : u = .slice A l.length c := by simpa using hm
      exact hl k hk
  have hnf : ∀ k, k < w.heap.size → ¬ fp rb v k → ¬ fp rb v7 k := fun k hk hn hf => by
    rcases hf with e | e
    · exact hn (.inl e)
    · rcases ho with e1 | e1
      · exact hn (.inr (Eq.trans (Eq.symm e1) e))
      · have := Option.some.inj (Eq.trans (Eq.symm e1) e); omega
  have hblk : w6.heap[rb]? = some (.cells #[.int .i64 R.places, .int .i64 R.tail, .int .i64 R.first, .int .i64 R.sealed, v] 56 (0, 0)) := (hg.block rb hlt (fun e => h.ne e.symm)).trans h.blk
  have hs : (w6.setCell ⟨rb, 4, none⟩ v7).heap.size = w6.heap.size := by simp [World.setCell]
  refine ⟨blk_set hblk 4 _, hr.step fun k hk => blk_set_ne 4 _ (fun e => hne (e ▸ hk)), (h.uok.push hc).step fun u hm k hk => ?_, h.bd, hne, fun u hm k hk => ?_⟩
  · obtain ⟨h2, h3⟩ := hlo u hm k hk
    exact (blk_set_ne 4 _ (fun e => h3 (.inl e.symm))).trans (hg.block k h2 (fun e => h3 (.inr e.symm)))
  · obtain ⟨h2, h3⟩ := hlo u hm k hk
    exact ⟨by rw [hs]; exact Nat.lt_of_lt_of_le h2 hg.size, hnf k h2 h3⟩
end
/-- What the document's Open leaves. -/
def ROpPost (w : World) (r : Option (Jr × List (List Ch))) (e : Ending) (w' : World) : Prop :=
  (∃ J L jb v us, r = some (J, L) ∧ e = .returned (.tuple #[ptr jb, .int .i64 0]) ∧ RIs w.heap.size w' jb v us ⟨J.ring, J.tail, J.first, J.sealed, L⟩ ∧ Below w.heap.size w w' ∧ ∀ u ∈ us, ∀ k, rd u k → w.heap.size ≤ k) ∨
  (r = none ∧ e = .returned (.tuple #[.pointer none, .int .i64 80]) ∧ Below w.heap.size w w')
set_option maxHeartbeats 3200000 in
set_option maxRecDepth 100000 in
theorem ropen_no (reg : List ByteArray) (A : Option Addr) (c : Nat) (w : World) (h : reg.length < 8 ∨ 256 < reg.length) :
    Calls Try.prog 26 #[.slice A reg.length c] w fun e w' => e = .returned (.tuple #[.pointer none, .int .i64 80]) ∧ Below w.heap.size w w' := by
  have hb : decide ((reg.length : Int) < 8) = true ∨ (decide ((reg.length : Int) < 8) = false ∧ decide ((reg.length : Int) > 256) = true) := by simp; omega
  generalize reg.length = n at *
  clear h
  rcases hb with b1 | ⟨b1, b2⟩
  all_goals
    go_enter Try.func26, Try.ntmps26
    go_wp2_with fail
    refine bodyPost_ret (v := .tuple #[.pointer none, .int .i64 80]) (by simp [results, Try.results26, go_sem]) rfl ⟨rfl, Below.refl _ _⟩
theorem ringL_at (reg : List ByteArray) (m T a d : Nat) (hm : m + 1 = reg.length) (hi : a + d < m) : ∃ s, reg[(T + (a + d)) % m + 1]? = some s ∧ ((ringL reg m T).drop a).take (d + 1) = ((ringL reg m T).drop a).take d ++ [s] := by
  have := Nat.mod_lt (T + (a + d)) (show 0 < m by omega)
  refine ⟨reg[(T + (a + d)) % m + 1]'(by omega), List.getElem?_eq_getElem _, ?_⟩
  rw [List.take_succ_eq_append_getElem (by rw [List.length_drop, ringL_len]; omega)]
  congr 2
  rw [List.getElem_drop]
  unfold ringL
  rw [List.getElem_map, List.getElem_range, List.getElem?_eq_getElem (by omega)]
  rfl
set_option maxHeartbeats 6400000 in
set_option maxRecDepth 100000 in
theorem ropen_yes (reg : List ByteArray) (A : Option Addr) (c : Nat) (w : World) (h : Strs w A reg) (hs : ∀ b ∈ reg, b.size ≤ 1125899906842624) (h1 : 8 ≤ reg.length) (h2 : reg.length ≤ 256) :
    Calls Try.prog 26 #[.slice A reg.length c] w (ROpPost w (openJ reg)) := by
  have hu := Try.underlying56
  have hup := Try.underlying27
  have hur := Try.underlying95
  obtain ⟨m, hn⟩ : ∃ m, m + 1 = reg.length := ⟨reg.length - 1, by omega⟩
  obtain ⟨b0, hb0⟩ : ∃ b0, reg[0]? = some b0 := ⟨_, List.getElem?_eq_getElem (by omega)⟩
  obtain ⟨ad, rfl, c0⟩ : ∃ ad, A = some ad ∧ w.cell? ad = some (.string b0) := by
    obtain ⟨ad, e, hc⟩ := h 0 (by omega)
    have e0 : ad.add 0 = ad := by unfold Addr.add; simp
    rw [e0] at hc
    refine ⟨ad, e, hc.trans ?_⟩
    rw [List.getElem?_eq_getElem (by omega)] at hb0
    rw [Option.some.inj hb0]
  have hb0s : b0.size ≤ 1125899906842624 := hs b0 (List.mem_of_getElem? hb0)
  have HO : openJ reg = match opJ b0 ((m : Int) + 1) with
    | none => none
    | some J => match loopJ J.sealed.toNat J.first (ringL reg m J.tail.toNat) with
      | none => none
      | some L => some ({ J with sizes := L.map fun l => l.length + 1 }, L) := by
    unfold openJ
    rw [if_neg (by omega), hb0, ← hn]
    dsimp only [Option.getD]
    rw [show ((m + 1 : Nat) : Int) = (m : Int) + 1 from Int.natCast_succ m, show m + 1 - 1 = m from by omega]
    cases opJ b0 ((m : Int) + 1) <;> rfl
  obtain ⟨res, hres⟩ : ∃ res, res = openJ reg := ⟨_, rfl⟩
  rw [← hres] at HO ⊢
  obtain ⟨s, hhs⟩ : ∃ s, s = (unblockS b0).1 := ⟨_, rfl⟩
  obtain ⟨e0, hhe⟩ : ∃ e, e = (unblockS b0).2 := ⟨_, rfl⟩
  obtain ⟨a, hha⟩ : ∃ a, a = readS (s.extract 1 s.size) 0 2 := ⟨_, rfl⟩
  obtain ⟨f, hhf⟩ : ∃ f, f = readS a.2.2.1 a.2.2.2 8 := ⟨_, rfl⟩
  obtain ⟨x, hhx⟩ : ∃ x, x = readS f.2.2.1 f.2.2.2 8 := ⟨_, rfl⟩
  obtain ⟨hd, hhd⟩ : ∃ hd, hd = headJ ⟨(m : Int), a.1, f.1, x.1 - f.1, []⟩ := ⟨_, rfl⟩
  have ea : a = rA (uT b0) := by rw [hha, hhs]; rfl
  have ef : f = rF (uT b0) := by rw [hhf, ea]; rfl
  have ex : x = rX (uT b0) := by rw [hhx, ef]; rfl
  have HRok : ROk b0 ((m : Int) + 1) ↔ (e0 = 0 ∧ s.size = 19 ∧ f.2.1 = 0 ∧ x.2.1 = 0 ∧ (f.1 ≤ x.1 ∧ x.1 - f.1 ≤ m ∧ a.1 < m ∧ 1 ≤ f.1 ∧ f.1 ≤ 1099511627776) ∧ hd = b0) := by
    have e1 : hd = headJ (hdJ (uT b0) ((m : Int) + 1)).1 := by
      rw [hhd, hdJ_eq, ea, ef, ex, show (m : Int) + 1 - 1 = m from by omega]
    rw [e1, ex, ef, ea, hhs, hhe]
    constructor
    · intro h
      obtain ⟨p1, p2, p3, p4, p5, p6⟩ := h
      rw [show (m : Int) + 1 - 1 = m from by omega] at p5
      exact ⟨p1, p2, p3, p4, p5, p6⟩
    · rintro ⟨p1, p2, p3, p4, p5, p6⟩
      refine ⟨p1, p2, p3, p4, ?_, p6⟩
      rw [show (m : Int) + 1 - 1 = m from by omega]
      exact p5
  have HNo : Aside0 (¬ (e0 = 0 ∧ s.size = 19 ∧ f.2.1 = 0 ∧ x.2.1 = 0 ∧ (f.1 ≤ x.1 ∧ x.1 - f.1 ≤ m ∧ a.1 < m ∧ 1 ≤ f.1 ∧ f.1 ≤ 1099511627776) ∧ hd = b0) → res = none) := ⟨fun hh => by
    rw [HO, ref_no (fun hk => hh (HRok.1 hk))]⟩
  have HYs : Aside0 ((e0 = 0 ∧ s.size = 19 ∧ f.2.1 = 0 ∧ x.2.1 = 0 ∧ (f.1 ≤ x.1 ∧ x.1 - f.1 ≤ m ∧ a.1 < m ∧ 1 ≤ f.1 ∧ f.1 ≤ 1099511627776) ∧ hd = b0) → res = match loopJ (x.1 - f.1).toNat f.1 (ringL reg m a.1.toNat) with
      | none => none
      | some L => some ((⟨(m : Int), a.1, f.1, x.1 - f.1, L.map fun l => l.length + 1⟩ : Jr), L)) := ⟨fun hh => by
    have e1 : (hdJ (uT b0) ((m : Int) + 1)).1 = ⟨(m : Int), a.1, f.1, x.1 - f.1, []⟩ := by
      rw [hdJ_eq, ea, ef, ex, show (m : Int) + 1 - 1 = m from by omega]
    rw [HO, ref_yes (HRok.2 hh), e1]⟩
  have HA := Aside0.mk hha
  have HF := Aside0.mk hhf
  have HX := Aside0.mk hhx
  have HHd := Aside0.mk hhd
  have na : 0 ≤ a.1 := by rw [hha]; exact readS_nn _ _ _
  have nf : 0 ≤ f.1 := by rw [hhf]; exact readS_nn _ _ _
  have nx : 0 ≤ x.1 := by rw [hhx]; exact readS_nn _ _ _
  have ma : a.1 ≤ 9223372036854775807 := by rw [hha]; exact readS_hi _ _ _
  have mf : f.1 ≤ 9223372036854775807 := by rw [hhf]; exact readS_hi _ _ _
  have mx : x.1 ≤ 9223372036854775807 := by rw [hhx]; exact readS_hi _ _ _
  have HU : Aside0 (∀ W : World, Calls Try.prog 43 #[.string b0] W fun e w' => e = .returned (.tuple #[.string s, .int .i64 e0]) ∧ Below W.heap.size W w') := ⟨fun W => by
    rw [hhs, hhe]
    exact cartularyref03_Unblock.calls b0 (unblockS b0).1 (unblockS b0).2 W (lim_ok _ hb0s)⟩
  rw [← hn]
  have H := Aside0.mk h
  have HSz := Aside0.mk hs
  have HN := Aside0.mk hn
  have HC0 : Aside0 (∀ W, Below w.heap.size w W → W.cell? ad = some (.string b0)) := ⟨fun W hb => (World.cell?_of_block (hb.block _ (World.block_lt_of_cell? w _ c0))).trans c0⟩
  have hm7 : 7 ≤ m := by omega
  have hm255 : m ≤ 255 := by omega
  have b1 : decide ((m : Int) + 1 < 8) = false := decide_eq_false (by omega)
  have b2 : decide ((m : Int) + 1 > 256) = false := decide_eq_false (by omega)
  have hn0 : (0 : Int) < (m : Int) + 1 := by omega
  clear h hs h1 h2 hn hb0 hres HO HRok ea ef ex hhs hhe hha hhf hhx hhd hb0s
  by_cases g0 : e0 = 0 ∧ s.size = 19
  · obtain ⟨ge, gs⟩ := g0
    have q0 : (e0 != 0) = false := by simp [ge]
    have q19 : ((s.size : Int) != 19) = false := by simp [gs]
    have hi1 : 0 < s.size := by omega
    have hj1 : (0 : Int) < (s.size : Int) := by omega
    have HE0 := Aside0.mk ge
    have HS19 := Aside0.mk gs
    clear ge gs
    go_enter Try.func26, Try.ntmps26
    go_wp2_with fail
    refine (HU.out _).mono ?_
    rintro e w1 ⟨rfl, hB⟩
    have B1 := Aside0.mk hB
    clear hB
    have I2 := Aside0.mk (Pr.IsS95.new w w1 (s.extract 1 s.size) 0 B1.out)
    have B2 := Aside0.mk (below_alloc B1.out (.cells #[.string (s.extract 1 s.size), .int .i64 0] 95))
    have HRd := Aside0.mk (rread_calls w1.heap.size (s.extract 1 s.size) 0 2 (by omega) w _ I2.out B2.out)
    rw [← HA.out] at HRd
    go_wp2_with fail
    refine HRd.out.mono ?_
    rintro e w3 ⟨rfl, hI, hB, _⟩
    have B3 := Aside0.mk hB
    have HRd2 := Aside0.mk (rread_calls w1.heap.size a.2.2.1 a.2.2.2 8 (by omega) w _ hI hB)
    rw [← HF.out] at HRd2
    clear hB HRd I2 B2 B1 hI
    go_wp2_with fail
    refine HRd2.out.mono ?_
    rintro e w4 ⟨rfl, hI, hB, _⟩
    have B4 := Aside0.mk hB
    have HRd3 := Aside0.mk (rread_calls w1.heap.size f.2.2.1 f.2.2.2 8 (by omega) w _ hI hB)
    rw [← HX.out] at HRd3
    clear hB HRd2 B3 hI
    go_wp2_with fail
    refine HRd3.out.mono ?_
    rintro e w5 ⟨rfl, _, hB, _⟩
    have B5 := Aside0.mk hB
    clear hB HRd3 B4
    have wxf : IntKind.i64.wrap (x.1 - f.1) = x.1 - f.1 := IntWalk.i64_in _ (by omega)
    have wm : IntKind.i64.wrap ((m : Int) + 1 - 1) = (m : Int) := (IntWalk.i64_in _ (by omega)).trans (by omega)
    have I6 : Aside0 (RIs w.heap.size (w5.alloc (.cells #[.int .i64 (m : Int), .int .i64 a.1, .int .i64 f.1, .int .i64 (x.1 - f.1), .slice none 0 0] 56)) w5.heap.size (.slice none 0 0) [] ⟨(m : Int), a.1, f.1, x.1 - f.1, []⟩) := ⟨⟨heap_alloc_new w5 _, .inl ⟨rfl, rfl⟩, ⟨rfl, fun i hi => by simp at hi⟩, B5.out.size, by simp [Value.ownBlock], fun u hu => by simp at hu⟩⟩
    have B6 : Aside0 (Below w.heap.size w (w5.alloc (.cells #[.int .i64 (m : Int), .int .i64 a.1, .int .i64 f.1, .int .i64 (x.1 - f.1), .slice none 0 0] 56))) := ⟨below_alloc B5.out _⟩
    go_upto_region 12 with fail
    by_cases g1 : f.2.1 = 0 ∧ x.2.1 = 0 ∧ (f.1 ≤ x.1 ∧ x.1 - f.1 ≤ m ∧ a.1 < m ∧ 1 ≤ f.1 ∧ f.1 ≤ 1099511627776)
    · obtain ⟨j1, j2, j3, j4, j5, j6, j7⟩ := g1
      have p1 : (f.2.1 != 0) = false := by simp [j1]
      have p2 : (x.2.1 != 0) = false := by simp [j2]
      have p3 : decide (x.1 < f.1) = false := decide_eq_false (by omega)
      have p4 : decide (x.1 - f.1 > m) = false := decide_eq_false (by omega)
      have p5 : decide (a.1 ≥ m) = false := decide_eq_false (by omega)
      have p6 : decide (f.1 < 1) = false := decide_eq_false (by omega)
      have p7 : decide (f.1 > 1099511627776) = false := decide_eq_false (by omega)
      have wm2 : IntKind.i64.wrap (m : Int) = (m : Int) := IntWalk.i64_in _ (by omega)
      have p4b : decide ((m : Int) < x.1 - f.1) = false := decide_eq_false (by omega)
      have p5b : decide ((m : Int) ≤ a.1) = false := decide_eq_false (by omega)
      have p7b : decide (1099511627776 < f.1) = false := decide_eq_false (by omega)
      have hHW : HW (RJ.jr ⟨(m : Int), a.1, f.1, x.1 - f.1, []⟩) := ⟨na, by show a.1 < 65536; omega, nf, by show f.1 ≤ _; omega, by show 0 ≤ f.1 + (x.1 - f.1); omega, by show f.1 + (x.1 - f.1) ≤ _; omega⟩
      have HH : Aside0 (∀ W, Below (w5.alloc (.cells #[.int .i64 (m : Int), .int .i64 a.1, .int .i64 f.1, .int .i64 (x.1 - f.1), .slice none 0 0] 56)).heap.size (w5.alloc (.cells #[.int .i64 (m : Int), .int .i64 a.1, .int .i64 f.1, .int .i64 (x.1 - f.1), .slice none 0 0] 56)) W → Calls Try.prog 20 #[.pointer (some ⟨w5.heap.size, 0, none⟩)] W fun e w' => e = .returned (.string hd) ∧ Below W.heap.size W w') := ⟨fun W hb => by
        have h := rheader_calls (I6.out.below hb) hHW
        rw [HHd.out]
        exact h⟩
      clear hHW
      generalize hW6 : w5.alloc (.cells #[.int .i64 (m : Int), .int .i64 a.1, .int .i64 f.1, .int .i64 (x.1 - f.1), .slice none 0 0] 56) = w6 at I6 B6 HH ⊢
      have HW6 := Aside0.mk hW6
      clear hW6
      have B0 : Aside0 (Below w6.heap.size w6 w6.drew) := ⟨below_drew1 (Below.refl _ _)⟩
      have HCr : Aside0 (∀ W, Below w6.heap.size w6 W → W.cell? ad = some (.string b0)) := ⟨fun W hb => HC0.out W (B6.out.trans (hb.mono B6.out.size))⟩
      have HG := Aside0.mk (And.intro j1 (And.intro j2 (And.intro j3 (And.intro j4 (And.intro j5 (And.intro j6 j7))))))
      clear j1 j2 j3 j4 j5 j6 j7
      by_cases g2 : hd = b0
      · subst g2
        have qn : (hd.toList == hd.toList) = true := by simp
        go_cut [112] (fun v112 wc => v112 = .bool false ∧ Aside0 (Below w6.heap.size w6 wc))
        case first =>
          go_region_held3 (fun w' => w'.cell? ad = some (.string hd)) (first | exact HCr.out _ B0.out | exact HCr.out _ B7.out) (first
            | (go_at_call 20; refine (HH.out _ B0.out).mono ?_; rintro e w7 ⟨rfl, hB⟩; have B7 := Aside0.mk (B0.out.trans (hB.mono B0.out.size)); clear hB))
          all_goals
            go_wp2_with fail
            go_meet
            case rel => exact ⟨rfl, B7⟩
        case rest =>
          obtain ⟨rfl, B7⟩ := hcut
          have hHY := HYs.out ⟨HE0.out, HS19.out, HG.out.1, HG.out.2.1, HG.out.2.2, rfl⟩
          obtain ⟨-, -, j3, j4, j5, j6, j7⟩ := HG.out
          obtain ⟨T, hT⟩ : ∃ T : Nat, a.1 = T := ⟨a.1.toNat, by omega⟩
          obtain ⟨K, hK⟩ : ∃ K : Nat, x.1 - f.1 = K := ⟨(x.1 - f.1).toNat, by omega⟩
          have hI7 := I6.out.below B7.out
          rw [hT, hK] at hHY hI7
          rw [hT]
          rw [Int.toNat_natCast, Int.toNat_natCast] at hHY
          have hTm : T < m := by omega
          have hKm : K ≤ m := by omega
          have hf1 : 0 ≤ f.1 := nf
          have hf2 : f.1 ≤ 1099511627776 := j7
          generalize f.1 = first at hHY hI7 hf1 hf2 ⊢
          have HO2 := Aside0.mk hHY
          have I7 := Aside0.mk hI7
          have BW := Aside0.mk (B6.out.trans (B7.out.mono B6.out.size))
          have HRL := Aside0.mk (ringL_len reg m T)
          have HMem := Aside0.mk (ringL_mem reg m T HN.out)
          generalize w5.heap.size = jb at I7 ⊢
          clear hHY hI7 p1 p2 p3 p4 p5 p6 p7 p4b p5b p7b wxf wm wm2 na nf nx ma mf mx B0 HCr HH HG HNo HYs HA HF HX HHd j3 j4 j5 j6 j7 hT hK I6 B6 B7 B5 HW6 q0 q19 HE0 HS19 qn HC0
          go_wp2_with fail
          go_loopw [15] (fun v15 wr => ∃ (at_ : Nat) (L : List (List Ch)) (us : List Value) (v : Value), v15 = .int .i64 (at_ : Int) ∧ at_ ≤ m ∧ L.length ≤ K ∧ Aside0 (RIs w.heap.size wr jb v us ⟨(m : Int), (T : Int), first, (K : Int), L⟩) ∧ Aside0 (Below w.heap.size w wr) ∧ Aside0 (loopJ K first (ringL reg m T) = (loopJ (K - L.length) (first + (L.length : Int)) ((ringL reg m T).drop at_)).map (fun r => L ++ r)) ∧ Aside0 (∀ u ∈ us, ∀ k, rd u k → w.heap.size ≤ k)) (fun x _ => m - (intOf x).toNat)
          case atStart => exact ⟨0, [], [], _, rfl, by omega, by simp, I7, BW, ⟨by simp⟩, ⟨fun u hu => by simp at hu⟩⟩
          case round =>
            clear I7 BW
            obtain ⟨at_, L, us, v, rfl, hat, hLK, HI, HB, HE, HLo⟩ := hrel
            obtain ⟨Av, cv0, rfl⟩ := HI.out.slice
            dsimp only at HI ⊢
            have c3k := HI.out.c3
            have c4k := HI.out.c4
            dsimp only at c3k c4k
            by_cases hlt : L.length < K
            · go_wp2_with fail
              go_region
              have ID := Aside0.mk (HI.out.below (below_drew1 (Below.refl _ _)))
              have BD : Aside0 (Below w.heap.size w wr.drew) := ⟨below_drew1 HB.out⟩
              generalize wr.drew = wd at ID BD ⊢
              clear HI HB c3k c4k
              go_wp2_with fail
              go_loopw [16, 17] (fun v16 v17 wr => ∃ d : Nat, at_ + d ≤ m ∧ v17 = .int .i64 ((at_ + d : Nat) : Int) ∧ Aside0 (RowX wr wd.heap.size 9 v16 (tv (((ringL reg m T).drop at_).take d))) ∧ Aside0 (Below wd.heap.size wd wr)) (fun _ x _ => m - (intOf x).toNat)
              case atStart => exact ⟨0, by omega, by simp, ⟨RowX.nil _ _ _⟩, ⟨Below.refl _ _⟩⟩
              case round =>
                obtain ⟨d, hdm, rfl, HR, HBi⟩ := hrel
                obtain ⟨A8, c8, rfl⟩ := HR.out.slice
                have HL : Aside0 ((tv (((ringL reg m T).drop at_).take d)).length = d) := ⟨by rw [tv_len, List.length_take, List.length_drop, HRL.out]; omega⟩
                by_cases hlt2 : at_ + d < m
                · obtain ⟨st, hs1, hs2⟩ := ringL_at reg m T at_ d HN.out hlt2
                  have hmod := Nat.mod_lt (T + (at_ + d)) (show 0 < m by omega)
                  obtain ⟨ad', e', hcs⟩ := H.out ((T + (at_ + d)) % m + 1) (by rw [← HN.out]; omega)
                  obtain rfl := Option.some.inj e'
                  have hcs2 : w.cell? (ad.add ((T + (at_ + d)) % m + 1)) = some (.string st) := by
                    rw [hcs]
                    rw [List.getElem?_eq_getElem (by rw [← HN.out]; omega)] at hs1
                    rw [Option.some.inj hs1]
                  have HBw := Aside0.mk (BD.out.trans (HBi.out.mono BD.out.size))
                  have cs := (World.cell?_of_block (HBw.out.block _ (World.block_lt_of_cell? w _ hcs2))).trans hcs2
                  have HT := Aside0.mk hs2
                  have c0k := (ID.out.below HBi.out).c0
                  dsimp only at c0k
                  obtain ⟨i, hi⟩ : ∃ i, i = at_ + d := ⟨_, rfl⟩
                  rw [← hi] at cs hmod hlt2 hdm ⊢
                  have HIi := Aside0.mk hi
                  have q1 : IntKind.i64.wrap ((T : Int) + (i : Int)) = (T : Int) + (i : Int) := IntWalk.i64_in _ (by omega)
                  obtain ⟨p, hp⟩ : ∃ p, p = (T + i) % m := ⟨_, rfl⟩
                  rw [← hp] at cs hmod
                  have e9 : ad.add (p + 1) = ⟨ad.block, ad.off + (p + 1), none⟩ := by unfold Addr.add; simp
                  rw [e9] at cs
                  clear e9
                  have q8 : ((T : Int) + (i : Int)).tmod (m : Int) = (p : Int) := by
                    rw [Int.tmod_eq_emod_of_nonneg (by omega), hp]
                    exact_mod_cast rfl
                  have q9 : ((T : Int) + (i : Int)) % (m : Int) = (p : Int) := by
                    rw [hp]
                    exact_mod_cast rfl
                  have q2 : IntKind.i64.wrap ((p : Int) + 1) = (p : Int) + 1 := IntWalk.i64_in _ (by omega)
                  have q4 : (0 : Int) ≤ (p : Int) + 1 := by omega
                  have q5 : (p : Int) + 1 < (m : Int) + 1 := by omega
                  have q5' : (p : Int) < (m : Int) := by omega
                  have q6 : ((p : Int) + 1).toNat = p + 1 := by omega
                  have q7 : ¬ m = 0 := by omega
                  have CA := Aside0.mk ((blk_cell (blk_new wr (.cells #[.string st] 9)) 0).trans (Eq.refl (some (Value.string st))))
                  have RA := Aside0.mk (HR.out.below (below_alloc (Below.refl wr.heap.size wr) (.cells #[.string st] 9)))
                  have BA := Aside0.mk (below_alloc HBi.out (.cells #[.string st] 9))
                  have hln1 : (tv (((ringL reg m T).drop at_).take d)).length + 1 ≤ maxLen := by rw [HL.out]; simp only [maxLen]; omega
                  have hln2 : ((tv (((ringL reg m T).drop at_).take d)).length + 1) * 16 ≤ 140737488355328 := by rw [HL.out]; omega
                  have HLn := Aside0.mk (And.intro hln1 hln2)
                  have HPp := Aside0.mk hp
                  have hi255 : i < 255 := by omega
                  clear hs1 hs2 hcs hcs2 hmod hp hi hln1 hln2
                  go_wp2_with (at_builtin; refine wpList_push rfl wd.heap.size (.tmp 132) (.tmp 145) 59 9 (.string ⟨#[]⟩) 16 rfl Try.underlying59 infoS rfl _ _ (.string st) ⟨wr.heap.size, 0, none⟩ 1 rfl rfl CA.out rfl RA.out HLn.out.1 HLn.out.2 BA.out.size ?_; intro A6 n6 w6' hr6 hg6 ho6; have R6 := Aside0.mk hr6; have G6 := Aside0.mk hg6; clear hr6 hg6 ho6)
                  go_roundw
                  case rel => exact ⟨d + 1, by have := HIi.out; omega, by rw [HIi.out]; simp; omega, ⟨by rw [HT.out, tv_push]; exact R6.out⟩, ⟨BA.out.grown G6.out BA.out.size (fun k hk => RA.out.ge k hk)⟩⟩
                  case measure => simp [intOf]; omega
                · have hdm' : at_ + d = m := by omega
                  obtain ⟨rest, hrest⟩ : ∃ rest, rest = (ringL reg m T).drop at_ := ⟨_, rfl⟩
                  have hrl : rest.length = d := by rw [hrest, List.length_drop, HRL.out]; omega
                  have hR := HR.out
                  rw [HL.out, ← hrest, List.take_of_length_le (Nat.le_of_eq hrl)] at hR
                  rw [HL.out]
                  have hHE := HE.out
                  rw [← hrest] at hHE
                  have hD := rdecode_calls rest A8 c8 wr (rowx_strs hR) (fun b hb => HSz.out b (HMem.out b (List.mem_of_mem_drop (hrest ▸ hb)))) (by omega)
                  have hdl := decS_len rest
                  have hst : ∀ q, (decS rest).2.2.2 ≠ 0 ∨ (decS rest).1 ≠ q → loopJ (K - L.length) q rest = none := fun q hq => by
                    rw [show K - L.length = (K - L.length - 1) + 1 from by omega]
                    exact loopJ_stop hq
                  have hgo : ∀ q, (decS rest).2.2.2 = 0 → (decS rest).1 = q → loopJ (K - L.length) q rest = (loopJ (K - (L.length + 1)) (q + 1) (rest.drop ((decS rest).2.1.length + 1))).map fun r => (decS rest).2.1 :: r := fun q h1 h2 => by
                    rw [show K - L.length = (K - (L.length + 1)) + 1 from by omega]
                    exact loopJ_step h1 h2
                  rw [hrl] at hD hdl
                  generalize decS rest = dd at hD hdl hst hgo
                  obtain ⟨q, l, us', er⟩ := dd
                  dsimp only at hdl hst hgo
                  have HD := Aside0.mk hD
                  have HDl := Aside0.mk hdl
                  have HSt := Aside0.mk hst
                  have HGo := Aside0.mk hgo
                  have HEE := Aside0.mk hHE
                  have HRest := Aside0.mk hrest
                  have I3 := Aside0.mk (ID.out.below HBi.out)
                  have B3 := Aside0.mk (BD.out.trans (HBi.out.mono BD.out.size))
                  have HAtm := Aside0.mk hdm'
                  clear hrl hR hHE hD hdl hst hgo hrest HE HR HBi BD ID hdm hdm' HL
                  have c0k := I3.out.c0
                  dsimp only at c0k
                  go_wp2_with fail
                  refine HD.out.mono ?_
                  clear c0k
                  rintro e w4 ⟨v4, rfl, hr, hB⟩
                  dsimp only at hr hB ⊢
                  obtain ⟨Aq, cq, rfl⟩ := own_slice hr
                  have I4 := Aside0.mk (I3.out.below hB)
                  have B4 := Aside0.mk (B3.out.trans (hB.mono B3.out.size))
                  have R4 := Aside0.mk hr
                  have Z4 := Aside0.mk (fun kk (hk : fp jb (.slice Av L.length cv0) kk) => I3.out.lt hk)
                  clear hr hB HD
                  by_cases g1 : er = 0
                  · subst g1
                    have hnx := rnext_calls I4.out (by show 0 ≤ first; omega) (by show first ≤ _; omega) (by show L.length ≤ 1000; omega)
                    dsimp only at hnx
                    unfold ptr at hnx
                    have HNx := Aside0.mk hnx
                    clear hnx
                    by_cases g2 : q = first + (L.length : Int)
                    · subst g2
                      have hdl := HDl.out rfl
                      obtain ⟨N, hN⟩ : ∃ N : Nat, N = l.length + 1 := ⟨_, rfl⟩
                      obtain rfl : us' = (N : Int) := by rw [hN]; omega
                      have HNl := Aside0.mk hN
                      have HGo2 := Aside0.mk (HGo.out (first + (L.length : Int)) rfl rfl)
                      have hNd : N ≤ d := by rw [hN]; exact hdl.2.2
                      have hN1 : 1 ≤ N := by omega
                      have hNm : at_ + N ≤ m := by have := HAtm.out; omega
                      have wN : IntKind.i64.wrap ((at_ : Int) + (N : Int)) = (at_ : Int) + (N : Int) := IntWalk.i64_in _ (by omega)
                      clear hdl hN HGo HSt HDl hNd
                      go_wp2_with fail
                      refine HNx.out.mono ?_
                      rintro e w5 ⟨rfl, hB⟩
                      have I5 := Aside0.mk (I4.out.below hB)
                      have R5 := Aside0.mk (pw_own_below R4.out hB)
                      have B5 := Aside0.mk (B4.out.trans (hB.mono B4.out.size))
                      clear hB I4 B4 HNx
                      have HU : Aside0 (us.length = L.length) := ⟨I5.out.uok.1⟩
                      have hrlo : Aside0 (∀ kk, rd (.slice Aq l.length cq) kk → wr.heap.size ≤ kk ∧ kk < w5.heap.size) := ⟨fun kk hk => ⟨own_base R4.out kk (own_rd R4.out kk hk), own_lt R5.out kk (own_rd R5.out kk hk)⟩⟩
                      have c4 := I5.out.c4
                      have f4 := blk_frozen I5.out.blk 4
                      go_upto_region 24 with fail
                      have IA := Aside0.mk (I5.out.below (below_alloc (Below.refl w5.heap.size w5) (.cells #[.slice Aq l.length cq] 31)))
                      have BA := Aside0.mk (below_alloc B5.out (.cells #[.slice Aq l.length cq] 31))
                      have CA := Aside0.mk ((blk_cell (blk_new w5 (.cells #[.slice Aq l.length cq] 31)) 0).trans (Eq.refl (some (Value.slice Aq l.length cq))))
                      have HPO : Aside0 (∀ v7 w6, RowX w6 w.heap.size 31 v7 (us ++ [.slice Aq l.length cq]) → (w5.alloc (.cells #[.slice Aq l.length cq] 31)).grownBy w6 (Value.slice Av L.length cv0).ownBlock → (v7.ownBlock = (Value.slice Av L.length cv0).ownBlock ∨ v7.ownBlock = some (w5.alloc (.cells #[.slice Aq l.length cq] 31)).heap.size) → RIs w.heap.size (w6.setCell ⟨jb, 4, none⟩ v7) jb v7 (us ++ [.slice Aq l.length cq]) ⟨(m : Int), (T : Int), first, (K : Int), L ++ [l]⟩ ∧ Below w.heap.size w (w6.setCell ⟨jb, 4, none⟩ v7)) := ⟨fun v7 w6 hr6 hg6 ho6 => by
                        have hcq : Chs (w5.alloc (.cells #[.slice Aq l.length cq] 31)) Aq l := (own_chs R5.out rfl).below (below_alloc (Below.refl w5.heap.size w5) _)
                        refine ⟨IA.out.push hr6 hg6 ho6 hcq fun kk hkk => ?_, (BA.out.grown hg6 BA.out.size (fun k hk => IA.out.row.ge k hk)).setCell (p := ⟨jb, 4, none⟩) IA.out.bd _⟩
                        obtain ⟨h1, h2⟩ := hrlo.out kk hkk
                        refine ⟨?_, fun hf => ?_⟩
                        · have : (w5.alloc (.cells #[.slice Aq l.length cq] 31)).heap.size = w5.heap.size + 1 := by simp
                          omega
                        · have := Z4.out kk hf; omega⟩
                      have HK6 : Aside0 (∀ w6, (w5.alloc (.cells #[.slice Aq l.length cq] 31)).grownBy w6 (Value.slice Av L.length cv0).ownBlock → w6.heap[jb]? = some (.cells #[.int .i64 (m : Int), .int .i64 (T : Int), .int .i64 first, .int .i64 (K : Int), .slice Av L.length cv0] 56 (0, 0))) := ⟨fun w6 hg => (hg.block jb (blk_lt IA.out.blk) (fun e => IA.out.ne e.symm)).trans IA.out.blk⟩
                      go_upto_region 25 with (at_builtin; refine wpList_push rfl w.heap.size (.tmp 166) (.tmp 168) 54 31 (.slice none 0 0) 24 rfl Try.underlying54 infoLl rfl _ _ (.slice Aq l.length cq) ⟨w5.heap.size, 0, none⟩ 1 rfl rfl CA.out rfl IA.out.row (by rw [HU.out]; simp only [maxLen]; omega) (by rw [HU.out]; omega) BA.out.size ?_; intro A6 n6 w6 hr6 hg6 ho6; have R6 := Aside0.mk hr6; have G6 := Aside0.mk hg6; have O6 := Aside0.mk ho6; have K6 := Aside0.mk (HK6.out w6 hg6); have f6 := blk_frozen K6.out 4; clear hr6 hg6 ho6; have c6 := (blk_cell K6.out 4).trans (Eq.refl (some (Value.slice Av L.length cv0))))
                      obtain ⟨v7, hv7⟩ : ∃ v7, v7 = Value.slice A6 (us.length + 1) n6 := ⟨_, rfl⟩
                      rw [← hv7] at R6 O6 ⊢
                      have HF := Aside0.mk (HPO.out v7 w6 R6.out G6.out O6.out)
                      generalize w6.setCell ⟨jb, 4, none⟩ v7 = w8 at HF ⊢
                      have hE9 : Aside0 (loopJ K first (ringL reg m T) = (loopJ (K - (L ++ [l]).length) (first + ((L ++ [l]).length : Int)) ((ringL reg m T).drop (at_ + N))).map (fun r => (L ++ [l]) ++ r)) := ⟨by
                        rw [HEE.out, HGo2.out, HRest.out, HNl.out, Option.map_map, List.drop_drop]
                        rw [List.length_append, List.length_singleton, show first + ((L.length + 1 : Nat) : Int) = first + (L.length : Int) + 1 from by omega]
                        congr 1
                        funext r
                        simp⟩
                      have HLo9 : Aside0 (∀ u ∈ us ++ [.slice Aq l.length cq], ∀ k, rd u k → w.heap.size ≤ k) := ⟨fun u hm k hk => by
                        rcases List.mem_append.1 hm with hm | hm
                        · exact HLo.out u hm k hk
                        · obtain rfl : u = .slice Aq l.length cq := by simpa using hm
                          have := (hrlo.out k hk).1
                          have := B3.out.size
                          omega⟩
                      have HLl : Aside0 ((L ++ [l]).length ≤ K) := ⟨by rw [List.length_append, List.length_singleton]; omega⟩
                      clear IA BA CA c4 f4 HPO HK6 R6 G6 O6 K6 f6 c6 hv7
                      go_wp2_with fail
                      go_roundw
                      case rel => exact ⟨at_ + N, L ++ [l], _, v7, by simp, by omega, HLl.out, ⟨HF.out.1⟩, ⟨HF.out.2⟩, hE9, HLo9⟩
                      case measure => simp [intOf]; omega
                    · have q2 : (q != first + (L.length : Int)) = true := by simp [g2]
                      have HRn : Aside0 (res = none) := ⟨by rw [HO2.out, HEE.out, HSt.out _ (.inr g2)]; rfl⟩
                      clear g2
                      go_wp2_with fail
                      refine HNx.out.mono ?_
                      rintro e w5 ⟨rfl, hB⟩
                      have B5 := Aside0.mk (B4.out.trans (hB.mono B4.out.size))
                      clear hB
                      go_wp2_with fail
                      refine bodyPost_ret (v := .tuple #[.pointer none, .int .i64 80]) (by simp [results, Try.results26, go_sem]) rfl (.inr ⟨HRn.out, rfl, B5.out⟩)
                  · have q1 : (er != 0) = true := by simp [g1]
                    have HRn : Aside0 (res = none) := ⟨by rw [HO2.out, HEE.out, HSt.out _ (.inl g1)]; rfl⟩
                    clear g1
                    go_wp2_with fail
                    refine bodyPost_ret (v := .tuple #[.pointer none, .int .i64 80]) (by simp [results, Try.results26, go_sem]) rfl (.inr ⟨HRn.out, rfl, B4.out⟩)
            · obtain rfl : K = L.length := by omega
              have HRn : Aside0 (res = some ((⟨(m : Int), (T : Int), first, (L.length : Int), L.map fun l => l.length + 1⟩ : Jr), L)) := ⟨by
                rw [HO2.out, HE.out, Nat.sub_self]; simp [loopJ]⟩
              go_wp2_with fail
              go_region
              go_wp2_with fail
              refine bodyPost_ret (v := .tuple #[.pointer (some ⟨jb, 0, none⟩), .int .i64 0]) (by simp [results, Try.results26, go_sem]) rfl (.inl ⟨_, _, _, _, _, HRn.out, rfl, HI.out.below (below_drew1 (Below.refl _ _)), below_drew1 HB.out, HLo.out⟩)
      · have HR : Aside0 (res = none) := ⟨HNo.out fun hh => g2 hh.2.2.2.2.2⟩
        have qn : (hd.toList == b0.toList) = false := by rw [eq_iff]; exact decide_eq_false g2
        clear g2 HNo HYs I6
        go_region_held3 (fun w' => w'.cell? ad = some (.string b0)) (first | exact HCr.out _ B0.out | exact HCr.out _ B7.out) (first
          | (go_at_call 20; refine (HH.out _ B0.out).mono ?_; rintro e w7 ⟨rfl, hB⟩; have B7 := Aside0.mk (B0.out.trans (hB.mono B0.out.size)); clear hB))
        all_goals
          go_wp2_with fail
          refine bodyPost_ret (v := .tuple #[.pointer none, .int .i64 80]) (by simp [results, Try.results26, go_sem]) rfl (.inr ⟨HR.out, rfl, B6.out.trans (B7.out.mono B6.out.size)⟩)
    · have HR : Aside0 (res = none) := ⟨HNo.out fun hh => g1 ⟨hh.2.2.1, hh.2.2.2.1, hh.2.2.2.2.1⟩⟩
      have hcase : (f.2.1 != 0) = true ∨ ((f.2.1 != 0) = false ∧ (x.2.1 != 0) = true) ∨ ((f.2.1 != 0) = false ∧ (x.2.1 != 0) = false ∧ decide (x.1 < f.1) = true) ∨ ((f.2.1 != 0) = false ∧ (x.2.1 != 0) = false ∧ decide (x.1 < f.1) = false ∧ decide (x.1 - f.1 > m) = true) ∨ ((f.2.1 != 0) = false ∧ (x.2.1 != 0) = false ∧ decide (x.1 < f.1) = false ∧ decide (x.1 - f.1 > m) = false ∧ decide (a.1 ≥ m) = true) ∨ ((f.2.1 != 0) = false ∧ (x.2.1 != 0) = false ∧ decide (x.1 < f.1) = false ∧ decide (x.1 - f.1 > m) = false ∧ decide (a.1 ≥ m) = false ∧ decide (f.1 < 1) = true) ∨ ((f.2.1 != 0) = false ∧ (x.2.1 != 0) = false ∧ decide (x.1 < f.1) = false ∧ decide (x.1 - f.1 > m) = false ∧ decide (a.1 ≥ m) = false ∧ decide (f.1 < 1) = false ∧ decide (f.1 > 1099511627776) = true) := by
        by_cases j1 : f.2.1 = 0
        · by_cases j2 : x.2.1 = 0
          · have j1' : (f.2.1 != 0) = false := by simp [j1]
            have j2' : (x.2.1 != 0) = false := by simp [j2]
            rw [j1', j2']
            simp only [decide_eq_true_eq, decide_eq_false_iff_not]
            have g2 := fun h => g1 ⟨j1, j2, h⟩
            simp only [Bool.false_eq_true, false_or, false_and, true_and]
            omega
          · exact .inr (.inl ⟨by simp [j1], by simp [j2]⟩)
        · exact .inl (by simp [j1])
      clear g1 HNo HYs I6
      rcases hcase with p1 | ⟨p1, p2⟩ | ⟨p1, p2, p3⟩ | ⟨p1, p2, p3, p4⟩ | ⟨p1, p2, p3, p4, p5⟩ | ⟨p1, p2, p3, p4, p5, p6⟩ | ⟨p1, p2, p3, p4, p5, p6, p7⟩
      all_goals
        go_wp2_with fail
        go_region
        go_wp2_with fail
        refine bodyPost_ret (v := .tuple #[.pointer none, .int .i64 80]) (by simp [results, Try.results26, go_sem]) rfl (.inr ⟨HR.out, rfl, below_drew1 B6.out⟩)
  · have HR : Aside0 (res = none) := ⟨HNo.out fun hh => g0 ⟨hh.1, hh.2.1⟩⟩
    have hcase : (e0 != 0) = true ∨ ((e0 != 0) = false ∧ ((s.size : Int) != 19) = true) := by
      by_cases k1 : e0 = 0
      · by_cases k2 : s.size = 19
        · exact absurd ⟨k1, k2⟩ g0
        · exact .inr ⟨by simp [k1], by simp; omega⟩
      · exact .inl (by simp [k1])
    clear g0 HNo HYs
    rcases hcase with q0 | ⟨q0, q19⟩
    all_goals
      go_enter Try.func26, Try.ntmps26
      go_wp2_with fail
      refine (HU.out _).mono ?_
      rintro e w1 ⟨rfl, hB⟩
      have B1 := Aside0.mk hB
      clear hB
      go_wp2_with fail
      refine bodyPost_ret (v := .tuple #[.pointer none, .int .i64 80]) (by simp [results, Try.results26, go_sem]) rfl (.inr ⟨HR.out, rfl, B1.out⟩)
theorem ropen_calls (reg : List ByteArray) (A : Option Addr) (c : Nat) (w : World) (h : Strs w A reg) (hs : ∀ b ∈ reg, b.size ≤ 1125899906842624) :
    Calls Try.prog 26 #[.slice A reg.length c] w (ROpPost w (openJ reg)) := by
  by_cases hn : reg.length < 8 ∨ 256 < reg.length
  · refine (ropen_no reg A c w hn).mono ?_
    rintro e w' ⟨rfl, hB⟩
    exact .inr ⟨by unfold openJ; rw [if_pos hn], rfl, hB⟩
  · exact ropen_yes reg A c w h hs (by omega) (by omega)
end Go.Proofs.Ytlmnfnkjbgnklaa.Jrnl
end

section
/- The walk of the law JournalOpens. -/
set_option linter.unusedVariables false
set_option linter.unusedSimpArgs false
namespace Go.Proofs.Ytlmnfnkjbgnklaa.Jrnl
open Go.RowKit Go.Proofs.YtlmnfnkjbgnklaaW.PrintWords Go.Proofs.YtlmnfnkjbgnklaaW.PrintLast Go.Proofs.YtlmnfnkjbgnklaaW.PrintMore Go.Proofs.Ytlmnfnkjbgnklaa.TxnS Go.Proofs.Ytlmnfnkjbgnklaa.Txn Go.Proofs.Ytlmnfnkjbgnklaa.JS Go.Proofs.Ytlmnfnkjbgnklaa.Run Go.Proofs.Ytlmnfnkjbgnklaa.Open
def goodT (l : List ByteArray) : Prop := l.length ≤ 8796093021952 ∧ ∀ s ∈ l, s.size ≤ 140737488351232
theorem opens_texts : Opens Try.prog 59 (Kd.slice 9 Kd.string) goodT :=
  Opens.mono (opens_slice Try.underlying59 (opens_string Try.underlying9) (by kernel_rfl) (by_ := 16) (by kernel_rfl)) (fun x h => ⟨by have h1 : x.length * 16 ≤ 140737488351232 := h.1; omega, h.2⟩)
theorem strs_of {W : World} {A : Option Addr} {n cp : Nat} {l : List ByteArray} (h : (Kd.slice 9 Kd.string).K W l [.slice A n cp]) : n = l.length ∧ Strs W A l := by
  obtain ⟨A1, c1, he, hcc, hC⟩ := h
  obtain ⟨rfl, rfl, rfl⟩ : A = A1 ∧ n = l.length ∧ cp = c1 := by simpa using he
  refine ⟨rfl, fun i hi => ?_⟩
  obtain ⟨ad, hA, hc⟩ := hC.2.2 (by omega)
  obtain ⟨c, hl, hk, hcell⟩ := hc i l[i] (List.getElem?_eq_getElem hi)
  have hk' : c = [.string l[i]] := hk
  subst hk'
  refine ⟨ad, hA, ?_⟩
  have := hcell 0 _ rfl
  rw [show i * Kd.string.sz + 0 = i from by rw [show Kd.string.sz = 1 from rfl]; omega] at this
  exact this
/-- What Open tells is right. -/
theorem loopJ_says : ∀ (k : Nat) (q : Int) (bs : List ByteArray) (L : List (List Ch)), loopJ k q bs = some L → L.length = k ∧ (∀ l ∈ L, right l) ∧ (L.map fun l => l.length + 1).sum ≤ bs.length
  | 0, _, _, L, h => by
    obtain rfl := Option.some.inj h
    exact ⟨rfl, fun l hl => by simp at hl, by simp⟩
  | k + 1, q, bs, L, h => by
    rw [loopJ] at h
    split at h
    · cases h
    · rename_i hn
      obtain ⟨r, hr, rfl⟩ := Option.map_eq_some_iff.1 h
      have h0 : (decS bs).2.2.2 = 0 := Decidable.not_not.1 fun e => hn (.inl e)
      obtain ⟨-, h1, h2⟩ := decS_len bs h0
      obtain ⟨i1, i2, i3⟩ := loopJ_says k (q + 1) _ r hr
      rw [List.length_drop] at i3
      refine ⟨by rw [List.length_cons, i1], fun l hl => ?_, ?_⟩
      · rcases List.mem_cons.1 hl with rfl | hl
        · exact h1
        · exact i2 l hl
      · rw [List.map_cons, List.sum_cons]
        omega
theorem openJ_says {reg : List ByteArray} {J : Jr} {L : List (List Ch)} (h : openJ reg = some (J, L)) : JW J ∧ J.sizes = L.map (fun l => l.length + 1) ∧ (∀ l ∈ L, right l) ∧ L.length ≤ 255 := by
  unfold openJ at h
  split at h
  · cases h
  · rename_i hn
    cases ho : opJ ((reg[0]?).getD ⟨#[]⟩) reg.length with
    | none => rw [ho] at h; cases h
    | some J0 =>
      rw [ho] at h
      dsimp only at h
      cases hl : loopJ J0.sealed.toNat J0.first (ringL reg (reg.length - 1) J0.tail.toNat) with
      | none => rw [hl] at h; cases h
      | some L0 =>
        rw [hl] at h
        dsimp only at h
        have h := Option.some.inj h
        simp only [Prod.mk.injEq] at h
        obtain ⟨rfl, rfl⟩ := h
        obtain ⟨o1, o2, o3, o4, o5, o6, o7, o8⟩ := opJ_ok ho
        obtain ⟨l1, l2, l3⟩ := loopJ_says _ _ _ _ hl
        rw [ringL_len] at l3
        refine ⟨⟨by show 7 ≤ J0.ring; omega, by show J0.ring ≤ 255; omega, o2, by show J0.tail < J0.ring; omega, o4, ?_, o6, ?_, ?_, fun n hn => ?_⟩, rfl, l2, by omega⟩
        · show J0.first + ((L0.map fun l => l.length + 1).length : Int) ≤ _
          rw [List.length_map]; omega
        · show J0.sealed ≤ ((L0.map fun l => l.length + 1).length : Int)
          rw [List.length_map]; omega
        · show (((L0.map fun l => l.length + 1).sum : Nat) : Int) ≤ J0.ring
          omega
        · obtain ⟨l, _, rfl⟩ := List.mem_map.1 hn
          omega
theorem RowX.mono {w : World} {B B' : Nat} {e : TypeId} {v : Value} {xs : List Value} (h : RowX w B e v xs) (hb : B' ≤ B) : RowX w B' e v xs := by
  rcases h with h | ⟨g, off, cap, C, h1, h2, h3⟩
  · exact .inl h
  · exact .inr ⟨g, off, cap, C, h1, Nat.le_trans hb h2, h3⟩
theorem RIs.mono {w : World} {B B' rb : Nat} {v : Value} {us : List Value} {R : RJ} (h : RIs B w rb v us R) (hb : B' ≤ B) : RIs B' w rb v us R :=
  ⟨h.blk, RowX.mono h.row hb, h.uok, Nat.le_trans hb h.bd, h.ne, h.lo⟩
/-- The document's Append, the elder row kept. -/
theorem rappend_keeps {B rb : Nat} {v2 : Value} {us : List Value} {R : RJ} {w : World} (h : RIs B w rb v2 us R) (hw : JW R.jr) (hB : B ≤ w.heap.size) (l : List Ch) (A : Option Addr) (c : Nat) (hc : Chs w A l) (hcl : ∀ k, rd (.slice A l.length c) k → k < w.heap.size ∧ ¬ fp rb v2 k) (hl : l.length ≤ 1125899906842624) :
    Calls Try.prog 12 #[ptr rb, .slice A l.length c] w (fun e w' => ∃ us', RAPost B rb v2 us w ((appJ R.jr l).1, (appJ R.jr l).2.1) us' (appR R l) e w' ∧ (∀ u ∈ us', u ∈ us ∨ u = .slice A l.length c) ∧ RowX w' B 31 v2 us) := by
  by_cases hr : right l
  · by_cases hm : room R.jr l.length
    · have e1 : appJ R.jr l = (wsJ R.jr l, 0, pushJ R.jr (l.length + 1)) := by unfold appJ; rw [if_neg (fun e => e hr), if_neg (fun e => e hm)]
      have e2 : appR R l = pushR R l := by unfold appR; rw [if_neg (fun e => e hr), if_neg (fun e => e hm)]
      rw [e1, e2]
      refine (rappend_yes2 h hw hB l A c hc hcl hr hm).mono fun e w' hp => ⟨_, hp.1, fun u hu => ?_, hp.2⟩
      rcases List.mem_append.1 hu with hu | hu
      · exact .inl hu
      · exact .inr (by simpa using hu)
    · have e1 : appJ R.jr l = ([], 5, R.jr) := by unfold appJ; rw [if_neg (fun e => e hr), if_pos hm]
      have e2 : appR R l = R := by unfold appR; rw [if_neg (fun e => e hr), if_pos hm]
      rw [e1, e2]
      refine (rappend_no2 h hw l A c hc hr hm).mono ?_
      rintro e w' ⟨rfl, hb⟩
      exact ⟨us, ⟨_, v2, rfl, own_nil _ _ _ _, h.below hb, Fr.of_below hb _, fun _ hk => .inl hk, fun k hk => by cases hk⟩, fun u hu => .inl hu, h.row.below hb⟩
  · have e1 : appJ R.jr l = ([], 70, R.jr) := by unfold appJ; rw [if_pos hr]
    have e2 : appR R l = R := by unfold appR; rw [if_pos hr]
    rw [e1, e2]
    refine (rappend_no1 l A c hc hl hr).mono ?_
    rintro e w' ⟨rfl, hb⟩
    exact ⟨us, ⟨_, v2, rfl, own_nil _ _ _ _, h.below hb, Fr.of_below hb _, fun _ hk => .inl hk, fun k hk => by cases hk⟩, fun u hu => .inl hu, h.row.below hb⟩
theorem app_len (J : Jr) (l : List Ch) : (appJ J l).1.length ≤ 1125899906842624 := by
  unfold appJ
  split
  · simp
  · split
    · simp
    · rename_i h1 h2
      have := (Decidable.not_not.1 h1 : right l).2
      simp only [wsJ, wsA_length, blocksL, List.length_cons, List.length_map]
      omega
theorem rd_lt {W : World} {A : Option Addr} {l : List Ch} {c : Nat} (h : Chs W A l) : ∀ k, rd (.slice A l.length c) k → k < W.heap.size := chs_lt h
end Go.Proofs.Ytlmnfnkjbgnklaa.Jrnl
namespace Go.Proofs.Ytlmnfnkjbgnklaa.Core
open Go.RowKit Go.Proofs.YtlmnfnkjbgnklaaW.PrintWords Go.Proofs.YtlmnfnkjbgnklaaW.PrintLast Go.Proofs.YtlmnfnkjbgnklaaW.PrintMore Go.Proofs.Ytlmnfnkjbgnklaa.TxnS Go.Proofs.Ytlmnfnkjbgnklaa.Txn Go.Proofs.Ytlmnfnkjbgnklaa.JS Go.Proofs.Ytlmnfnkjbgnklaa.Run Go.Proofs.Ytlmnfnkjbgnklaa.Jrnl
set_option maxHeartbeats 6400000 in
set_option maxRecDepth 100000 in
theorem journalOpens (W : World) (A : Option Addr) (reg : List ByteArray) (cp : Nat) (hr : Strs W A reg) (hs : ∀ b ∈ reg, b.size ≤ 1125899906842624) (M : Option Addr) (more : List Ch) (cm : Nat) (hm : Chs W M more) (hml : more.length ≤ 1125899906842624) :
    Calls Try.prog 5 #[.slice A reg.length cp, .slice M more.length cm] W fun e W' => e = .returned (.bool true) ∧ Below W.heap.size W W' := by
  have hup := Try.underlying23
  have hur := Try.underlying56
  have hupr := Try.underlying27
  have HO := Aside0.mk (open_calls reg A cp W hr hs)
  have HRO := Aside0.mk (fun w' (hb : Below W.heap.size W w') => ropen_calls reg A cp w' (hr.below hb) hs)
  have HSay := Aside0.mk (fun J L (h : openJ reg = some (J, L)) => openJ_says h)
  have HM := Aside0.mk hm
  have HMr := Aside0.mk (rd_lt (c := cm) hm)
  clear hr hs hm
  generalize reg.length = n at *
  generalize openJ reg = res at *
  go_enter Try.func5, Try.ntmps5
  go_wp2_with fail
  refine HO.out.mono ?_
  intro e w1 hp
  have hB1 : Below W.heap.size W w1 := by
    rcases hp with ⟨_, _, _, _, _, _, _, _, _, _, _, hB⟩ | ⟨_, _, hB⟩
    · exact hB
    · exact hB
  have HR1 := Aside0.mk (HRO.out w1 hB1)
  have T1 := Aside0.mk hB1
  clear hB1 HRO HO
  rcases hp with ⟨J, L, jb, vj, u, us, v8, rest, hres, rfl, hO, -⟩ | ⟨hres, rfl, -⟩
  · obtain ⟨j1, j2, j3, j4⟩ := HSay.out J L hres
    have O1 := Aside0.mk hO
    obtain ⟨Au, cu, rfl⟩ := hO.o.slice
    rw [hO.uo.1] at O1 ⊢
    have HRes := Aside0.mk hres
    clear hO hres HSay
    unfold ptr
    go_wp2_with fail
    refine HR1.out.mono ?_
    intro e w2 hp
    obtain ⟨J', L', rb, v2, us2, he, rfl, hR, hB, hlo⟩ : ∃ J' L' rb v us, res = some (J', L') ∧ e = .returned (.tuple #[ptr rb, .int .i64 0]) ∧ RIs w1.heap.size w2 rb v us ⟨J'.ring, J'.tail, J'.first, J'.sealed, L'⟩ ∧ Below w1.heap.size w1 w2 ∧ ∀ u ∈ us, ∀ k, rd u k → w1.heap.size ≤ k := by
      rcases hp with h | ⟨h, _⟩
      · exact h
      · rw [HRes.out] at h; cases h
    rw [HRes.out] at he
    have he := Option.some.inj he
    simp only [Prod.mk.injEq] at he
    obtain ⟨rfl, rfl⟩ := he
    obtain ⟨R, hRe⟩ : ∃ R : RJ, R = ⟨J.ring, J.tail, J.first, J.sealed, L⟩ := ⟨_, rfl⟩
    have hRj : R.jr = J := by
      rw [hRe]; unfold RJ.jr; rw [← j2]
    have hRl : R.l = L := by rw [hRe]
    rw [← hRe] at hR
    have S2 : Aside0 (DS W w2 jb rb vj v2 us2 R.jr R) := ⟨by
      rw [hRj]
      refine ⟨O1.out.j.below hB, RIs.mono hR T1.out.size, T1.out.trans (hB.mono T1.out.size), fun k hk hk2 => ?_, fun u hu k hk hf => ?_⟩
      · have h1 := hR.ge hk2
        have h2 := O1.out.j.lt hk
        omega
      · have h1 := hlo u hu k hk
        have h2 := O1.out.j.lt hf
        omega⟩
    have HW : Aside0 (JW R.jr) := ⟨by rw [hRj]; exact j1⟩
    have X2 : Aside0 (RowX w2 W.heap.size 31 (.slice Au L.length cu) us ∧ UsOk w2 us L ∧ (∀ k, (Value.slice Au L.length cu).ownBlock = some k → k < w1.heap.size ∧ ¬ fp jb vj k) ∧ ∀ x ∈ us, ∀ k, rd x k → k < w1.heap.size ∧ ¬ fp jb vj k) := ⟨by
      have o := O1.out.below hB
      have o1 := O1.out
      refine ⟨o.o, o.uo, fun k hk => ⟨o1.o.lt k hk, o1.d1 k hk⟩, fun x hx k hk => ⟨(o1.d3 x hx k hk).1, (o1.d3 x hx k hk).2.2.1⟩⟩⟩
    have HR0 : Aside0 (∀ k, fp rb v2 k → w1.heap.size ≤ k) := ⟨fun k hk => hR.ge hk⟩
    have B2 := Aside0.mk hB
    have HLr := Aside0.mk j3
    have HLl := Aside0.mk j4
    have HUl := Aside0.mk (hRl ▸ hR.uok : UsOk w2 us2 L)
    have HRl := Aside0.mk hRl
    have HRw := Aside0.mk hR.row
    obtain ⟨A8, c8, hv2⟩ := hR.slice
    rw [hRl] at hv2
    have HV2 := Aside0.mk hv2
    have HLo2 := Aside0.mk (fun u hu k hk => (hR.lo u hu k hk))
    clear hR hB hlo j1 j2 j3 j4 hRe hRj hRl O1 HRes HR1 hp hv2
    unfold ptr
    have HA := Aside0.mk (append_calls S2.out.j HW.out S2.out.b.size more M cm (HM.out.below S2.out.b) hml)
    have HB2 : Aside0 (∀ w4 (v' : Value), DS W w4 jb rb v' v2 us2 (appJ R.jr more).2.2 R → w4.heap.size ≥ w2.heap.size → Chs w4 M more → Calls Try.prog 12 #[ptr rb, .slice M more.length cm] w4 (fun e w' => ∃ us', RAPost W.heap.size rb v2 us2 w4 ((appJ R.jr more).1, (appJ R.jr more).2.1) us' (appR R more) e w' ∧ (∀ u ∈ us', u ∈ us2 ∨ u = .slice M more.length cm) ∧ RowX w' W.heap.size 31 v2 us2)) := ⟨fun w4 v' hS hs hc => by
      refine rappend_keeps hS.r HW.out hS.b.size more M cm hc (fun k hk => ?_) hml
      have h1 := HMr.out k hk
      exact ⟨Nat.lt_of_lt_of_le h1 hS.b.size, fun hf => by have := hS.r.ge hf; omega⟩⟩
    have HOk := Aside0.mk (appJ_ok HW.out more)
    have HWl := Aside0.mk (app_len R.jr more)
    have HRJ := Aside0.mk (appR_jr R more)
    unfold ptr at HA HB2
    generalize appR R more = R' at HB2 HRJ
    generalize appJ R.jr more = x at HA HB2 HOk HWl HRJ
    go_wp2_with fail
    refine HA.out.mono ?_
    rintro e w4 ⟨ua, v', rfl, hu, hj, hf, hp, hd⟩
    obtain ⟨Ax, cx, rfl⟩ := own_slice hu
    have S4 := Aside0.mk (S2.out.left hj hf hp)
    have U4 := Aside0.mk hu
    have Z4 := Aside0.mk hf.size
    have HC4 : Aside0 (Chs w4 M more) := ⟨chs_step (HM.out.below S2.out.b) fun k hk => hf.block k (by have := HMr.out k hk; have := S2.out.b.size; omega) (fun hfp => by have := HMr.out k hk; have := S2.out.j.ge hfp; omega)⟩
    have hsz12 := B2.out.size
    have X4 : Aside0 (RowX w4 W.heap.size 31 (.slice Au L.length cu) us ∧ UsOk w4 us L) := ⟨X2.out.1.step fun k hk => hf.block k (by have := (X2.out.2.2.1 k hk).1; omega) (X2.out.2.2.1 k hk).2, X2.out.2.1.step fun u hu k hk => hf.block k (by have := (X2.out.2.2.2 u hu k hk).1; omega) (X2.out.2.2.2 u hu k hk).2⟩
    have Y4 : Aside0 (UsOk w4 us2 L) := ⟨HUl.out.step fun u hu k hk => hf.block k (HLo2.out u hu k hk).1 (S2.out.du u hu k hk)⟩
    clear hu hj hf hp hd HA
    have c4 := S4.out.r.c4
    rw [HV2.out] at c4
    go_wp2_with fail
    refine (HB2.out _ _ S4.out Z4.out HC4.out).mono ?_
    rintro e w5 ⟨us', ⟨ub, v2', rfl, hu2, hr2, hf2, hp2, hd2⟩, hus2, hkeep⟩
    obtain ⟨Ay, cy, rfl⟩ := own_slice hu2
    have S5 := Aside0.mk (S4.out.right hr2 hf2 hp2 (fun u hu => by
      rcases hus2 u hu with h1 | rfl
      · exact .inl h1
      · exact .inr fun k hk hfp => by have := HMr.out k hk; have := S4.out.j.ge hfp; omega))
    have C5 : Aside0 (Chs w5 Ax x.1) := ⟨own_chs' (own_step U4.out fun k hk => hf2.block k (own_lt U4.out k hk) (fun hfp => by have h1 := own_base U4.out k hk; have h2 := S2.out.r.lt hfp; omega)) rfl⟩
    have D5 := Aside0.mk (own_chs' hu2 rfl)
    have X5 : Aside0 (RowX w5 W.heap.size 31 (.slice Au L.length cu) us ∧ UsOk w5 us L) := ⟨X4.out.1.step fun k hk => hf2.block k (by have := (X2.out.2.2.1 k hk).1; have := Z4.out; omega) (fun hfp => by have := (X2.out.2.2.1 k hk).1; have := HR0.out k hfp; omega), X4.out.2.step fun u hu k hk => hf2.block k (by have := (X2.out.2.2.2 u hu k hk).1; have := Z4.out; omega) (fun hfp => by have := (X2.out.2.2.2 u hu k hk).1; have := HR0.out k hfp; omega)⟩
    have Y5 : Aside0 (RowX w5 W.heap.size 31 (.slice A8 L.length c8) us2 ∧ UsOk w5 us2 L) := ⟨HV2.out ▸ hkeep, Y4.out.step fun u hu k hk => hf2.block k (by have := (HLo2.out u hu k hk).1; have := Z4.out; omega) (HLo2.out u hu k hk).2⟩
    have hsz25 : w2.heap.size ≤ w5.heap.size := Nat.le_trans Z4.out hf2.size
    have HT : Aside0 (Calls Try.prog 27 #[.slice Au L.length cu, .slice A8 L.length c8] w5 fun e w' => e = .returned (.bool true) ∧ Below w5.heap.size w5 w') := ⟨told_yes L Au A8 cu c8 w5 _ _ us us2 X5.out.1 X5.out.2 Y5.out.1 Y5.out.2 (by have := HLl.out; omega) (fun l hl => by have := (HLr.out l hl).2; omega) (fun x hx k hk => by have := (X2.out.2.2.2 x hx k hk).1; omega) (fun x hx k hk => by have := (HLo2.out x hx k hk).1; omega)⟩
    have S5' : Aside0 (DS W w5 jb rb v' v2' us' R'.jr R') := ⟨HRJ.out ▸ S5.out⟩
    have HOk' : Aside0 (JW R'.jr) := ⟨HRJ.out ▸ HOk.out⟩
    have HFr : Aside0 (∀ w', Below w5.heap.size w5 w' → Calls Try.prog 21 #[ptr jb] w' fun e w'' => e = .returned (.int .i64 (R'.places - (R'.jr.sizes.sum : Nat))) ∧ Below w'.heap.size w' w'') := ⟨fun w' hb => free_calls (S5'.out.below hb).j HOk'.out⟩
    have HFr2 : Aside0 (∀ w', Below w5.heap.size w5 w' → Calls Try.prog 22 #[ptr rb] w' fun e w'' => e = .returned (.int .i64 (R'.places - (R'.jr.sizes.sum : Nat))) ∧ Below w'.heap.size w' w'') := ⟨fun w' hb => rfree_calls (S5'.out.below hb).r HOk'.out⟩
    have HHd : Aside0 (∀ w', Below w5.heap.size w5 w' → Calls Try.prog 19 #[ptr jb] w' fun e w'' => e = .returned (.string (headJ R'.jr)) ∧ Below w'.heap.size w' w'') := ⟨fun w' hb => header_calls (S5'.out.below hb).j HOk'.out.hw⟩
    have HHd2 : Aside0 (∀ w', Below w5.heap.size w5 w' → Calls Try.prog 20 #[ptr rb] w' fun e w'' => e = .returned (.string (headJ R'.jr)) ∧ Below w'.heap.size w' w'') := ⟨fun w' hb => rheader_calls (S5'.out.below hb).r HOk'.out.hw⟩
    have HWr : Aside0 (∀ w', Below w5.heap.size w5 w' → Calls Try.prog 13 #[.slice Ax x.1.length cx, .slice Ay x.1.length cy] w' fun e w'' => e = .returned (.bool true) ∧ Below w'.heap.size w' w'') := ⟨fun w' hb => writes_calls x.1 Ax Ay cx cy w' (C5.out.below hb) (D5.out.below hb) HWl.out⟩
    have BW := Aside0.mk S5.out.b
    unfold ptr at HFr HFr2 HHd HHd2
    generalize headJ R'.jr = hd at HHd HHd2
    generalize R'.places - ((R'.jr.sizes.sum : Nat) : Int) = fr at HFr HFr2
    have qn : (hd.toList == hd.toList) = true := by simp
    clear hu2 hr2 hf2 hp2 hd2 hus2 hkeep c4 S5' HOk' S5 C5 D5 X5 Y5 hsz25 hsz12 HB2 HOk HWl HRJ
    go_wp2_with fail
    refine HT.out.mono ?_
    rintro e w6 ⟨rfl, hB⟩
    have B6 := Aside0.mk hB
    clear hB
    go_wp2_with fail
    refine (HWr.out _ B6.out).mono ?_
    rintro e w7 ⟨rfl, hB⟩
    have B7 := Aside0.mk (B6.out.trans (hB.mono B6.out.size))
    clear hB
    go_wp2_with fail
    refine (HHd.out _ B7.out).mono ?_
    rintro e w8 ⟨rfl, hB⟩
    have B8 := Aside0.mk (B7.out.trans (hB.mono B7.out.size))
    clear hB
    go_wp2_with fail
    refine (HHd2.out _ B8.out).mono ?_
    rintro e w9 ⟨rfl, hB⟩
    have B9 := Aside0.mk (B8.out.trans (hB.mono B8.out.size))
    clear hB
    go_wp2_with fail
    refine (HFr.out _ B9.out).mono ?_
    rintro e w10 ⟨rfl, hB⟩
    have B10 := Aside0.mk (B9.out.trans (hB.mono B9.out.size))
    clear hB
    go_wp2_with fail
    refine (HFr2.out _ B10.out).mono ?_
    rintro e w11 ⟨rfl, hB⟩
    have B11 := Aside0.mk (B10.out.trans (hB.mono B10.out.size))
    clear hB
    go_wp2_with fail
    refine (speaks_calls _).mono ?_
    rintro e w12 ⟨rfl, hB⟩
    have B12 := Aside0.mk (B11.out.trans (hB.mono B11.out.size))
    clear hB
    go_wp2_with fail
    go_ret
    exact ⟨rfl, BW.out.trans (B12.out.mono BW.out.size)⟩
  · have HRes := Aside0.mk hres
    clear hres HSay
    go_wp2_with fail
    refine HR1.out.mono ?_
    intro e w2 hp
    obtain ⟨rfl, hB⟩ : e = .returned (.tuple #[.pointer none, .int .i64 80]) ∧ Below w1.heap.size w1 w2 := by
      rcases hp with ⟨_, _, _, _, _, h, _⟩ | ⟨_, h1, h2⟩
      · rw [HRes.out] at h; cases h
      · exact ⟨h1, h2⟩
    have T2 := Aside0.mk (T1.out.trans (hB.mono T1.out.size))
    clear hB hp HR1
    go_wp2_with fail
    refine (speaks_calls _).mono ?_
    rintro e w5 ⟨rfl, hb5⟩
    have T5 := Aside0.mk (T2.out.trans (hb5.mono T2.out.size))
    clear hb5
    go_wp2_with fail
    go_ret
    exact ⟨rfl, T5.out⟩
theorem JournalOpens (W : World) (A : Option Addr) (n cp : Nat) (reg : List ByteArray) (h : (Kd.slice 9 Kd.string).K W reg [.slice A n cp]) (hg : goodT reg) (M : Option Addr) (k cm : Nat) (more : List Ch) (h2 : (Kd.slice 69 chK).K W more [.slice M k cm]) (hg2 : goodL more) :
    Calls Try.prog 5 #[.slice A n cp, .slice M k cm] W fun e W' => e = .returned (.bool true) ∧ Below W.heap.size W W' := by
  obtain ⟨rfl, hs⟩ := strs_of h
  obtain ⟨rfl, hc⟩ := chs_of h2
  exact journalOpens W A reg cp hs (fun b hb => by have := hg.2 b hb; omega) M more cm hc (by have := hg2.1; omega)
end Go.Proofs.Ytlmnfnkjbgnklaa.Core
end
