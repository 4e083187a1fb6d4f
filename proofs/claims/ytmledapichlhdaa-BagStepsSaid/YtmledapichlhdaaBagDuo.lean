/- Both bags side by side, the program's and the document's. -/
import Derived.Test.YtmledapichlhdaaRBagD
set_option linter.unusedVariables false
set_option linter.unusedSimpArgs false
namespace Go.Proofs.Ytmledapichlhdaa.Bag
open Go.RowKit Go.Proofs.YtmledapichlhdaaW.PrintWords Go.Proofs.YtmledapichlhdaaW.PrintLast Go.Proofs.YtmledapichlhdaaW.PrintMore Go.Proofs.Ytmledapichlhdaa.Maps Go.Proofs.Ytmledapichlhdaa.BagS
/-- The program's bag a has L, the document's rb has M; their blocks lie below Q. -/
def Duo (W : World) (Q : Nat) (w : World) (a rb : Nat) (n : Int) (L M : List Msg) : Prop := ∃ ma v, BIs W.heap.size w a ma n L ∧ RIs W.heap.size w rb v n M ∧ (∀ k, fp a ma k → k < Q ∧ k ≠ rb ∧ v.ownBlock ≠ some k) ∧ rb < Q ∧ Q ≤ w.heap.size ∧ Below W.heap.size W w
/-- What lies behind Q stays. -/
def Stay (Q : Nat) (w w' : World) : Prop := ∀ k, Q ≤ k → k < w.heap.size → w'.heap[k]? = w.heap[k]?
theorem Stay.blk {Q : Nat} {w w' : World} (h : Stay Q w w') {b : Nat} {o : Obj} (P : w.heap[b]? = some o) (hQ : Q ≤ b) : w'.heap[b]? = some o := (h b hQ (by
  by_cases hb : b < w.heap.size
  · exact hb
  · rw [Array.getElem?_eq_none (by omega)] at P; cases P)).trans P
section
variable {W w w' : World} {Q a rb : Nat} {n : Int} {L M : List Msg}
theorem Duo.bel (h : Duo W Q w a rb n L M) : Below W.heap.size W w := by obtain ⟨_, _, _, _, _, _, _, h⟩ := h; exact h
theorem Duo.ok (h : Duo W Q w a rb n L M) : Ok L := by obtain ⟨_, _, h, _⟩ := h; exact h.ok
theorem Duo.size (h : Duo W Q w a rb n L M) : Q ≤ w.heap.size := by obtain ⟨_, _, _, _, _, _, h, _⟩ := h; exact h
theorem Duo.cell (h : Duo W Q w a rb n L M) : ∃ A c, w.cell? ⟨rb, 1, none⟩ = some (.slice A M.length c) := by
  obtain ⟨ma, v, h1, h2, h3, h4, h5, h6⟩ := h
  obtain ⟨A, c, rfl⟩ := h2.slice
  exact ⟨A, c, h2.c1⟩
theorem Duo.below (h : Duo W Q w a rb n L M) (hb : Below w.heap.size w w') : Duo W Q w' a rb n L M := by
  obtain ⟨ma, v, h1, h2, h3, h4, h5, h6⟩ := h
  exact ⟨ma, v, h1.below hb, h2.below hb, h3, h4, Nat.le_trans h5 hb.size, h6.trans (hb.mono h6.size)⟩
theorem Duo.stepP {ma : Nat} {v : Value} {L' : List Msg} (h1 : BIs W.heap.size w a ma n L) (h2 : RIs W.heap.size w rb v n M) (h3 : ∀ k, fp a ma k → k < Q ∧ k ≠ rb ∧ v.ownBlock ≠ some k) (h4 : rb < Q) (h5 : Q ≤ w.heap.size) (h6 : Below W.heap.size W w) (hI : BIs W.heap.size w' a ma n L') (hF : Fr w w' (fp a ma)) : Duo W Q w' a rb n L' M ∧ Stay Q w w' :=
  ⟨⟨ma, v, hI, h2.fr hF (fun hk => (h3 _ hk).2.1 rfl) (fun k hk hf => (h3 k hf).2.2 hk), h3, h4, Nat.le_trans h5 hF.size, Fr.below h6 hF (fun k hk => h1.ge hk) h6.size⟩, fun k hk hl => hF.block k hl (fun hf => by have := (h3 k hf).1; omega)⟩
theorem Duo.stepR {ma : Nat} {v : Value} {M' : List Msg} (h1 : BIs W.heap.size w a ma n L) (h2 : RIs W.heap.size w rb v n M) (h3 : ∀ k, fp a ma k → k < Q ∧ k ≠ rb ∧ v.ownBlock ≠ some k) (h4 : rb < Q) (h5 : Q ≤ w.heap.size) (h6 : Below W.heap.size W w) (hP : RPost W.heap.size rb v n w M' w') : Duo W Q w' a rb n L M' ∧ Stay Q w w' := by
  obtain ⟨v', hR, hF, hn⟩ := hP
  refine ⟨⟨ma, v', h1.fr hF (fun k hk e => (h3 k hk).2.1 e), hR, fun k hk => ⟨(h3 k hk).1, (h3 k hk).2.1, fun e => ?_⟩, h4, Nat.le_trans h5 hF.size, Fr.below h6 hF (fun k hk => by have := h2.bd; omega) h6.size⟩, fun k hk hl => hF.block k hl (fun hf => by omega)⟩
  rcases hn k e with e2 | e2
  · exact (h3 k hk).2.2 e2
  · have := (h3 k hk).1; omega
theorem Duo.put (h : Duo W Q w a rb n L M) (m : Msg) : Calls Try.prog 10 #[ptr a, mv m] w fun e w' => e = .returned (.int .i64 (putS n L m).2) ∧ Duo W Q w' a rb n (putS n L m).1 M ∧ Stay Q w w' := by
  obtain ⟨ma, v, h1, h2, h3, h4, h5, h6⟩ := h
  refine (put_calls h1 m).mono ?_
  rintro e w' ⟨rfl, hI, hF⟩
  exact ⟨rfl, Duo.stepP h1 h2 h3 h4 h5 h6 hI hF⟩
theorem Duo.twice (h : Duo W Q w a rb n L M) (i : Int) : Calls Try.prog 19 #[ptr a, .int .i64 i] w fun e w' => e = .returned (.int .i64 (twiceS L i).2) ∧ Duo W Q w' a rb n (twiceS L i).1 M ∧ Stay Q w w' := by
  obtain ⟨ma, v, h1, h2, h3, h4, h5, h6⟩ := h
  refine (twice_calls h1 i).mono ?_
  rintro e w' ⟨rfl, hI, hF⟩
  exact ⟨rfl, Duo.stepP h1 h2 h3 h4 h5 h6 hI hF⟩
theorem Duo.drop (h : Duo W Q w a rb n L M) (i : Int) : Calls Try.prog 18 #[ptr a, .int .i64 i] w fun e w' => e = .returned (.int .i64 (delS L i).2.2) ∧ Duo W Q w' a rb n (delS L i).1 M ∧ Stay Q w w' := by
  obtain ⟨ma, v, h1, h2, h3, h4, h5, h6⟩ := h
  refine (drop_calls h1 i).mono ?_
  rintro e w' ⟨rfl, hI, hF⟩
  exact ⟨rfl, Duo.stepP h1 h2 h3 h4 h5 h6 hI hF⟩
theorem Duo.deliver (h : Duo W Q w a rb n L M) (i : Int) : Calls Try.prog 15 #[ptr a, .int .i64 i] w fun e w' => e = .returned (.tuple #[mv (delS L i).2.1, .int .i64 (delS L i).2.2]) ∧ Duo W Q w' a rb n (delS L i).1 M ∧ Stay Q w w' := by
  obtain ⟨ma, v, h1, h2, h3, h4, h5, h6⟩ := h
  refine (deliver_calls h1 i).mono ?_
  rintro e w' ⟨rfl, hI, hF⟩
  exact ⟨rfl, Duo.stepP h1 h2 h3 h4 h5 h6 hI hF⟩
theorem Duo.list (h : Duo W Q w a rb n L M) : Calls Try.prog 11 #[ptr a] w fun e w' => ∃ v, e = .returned v ∧ w'.ownsRow w.heap.size 30 3 v (uniq L).length (flat (uniq L)) ∧ Below w.heap.size w w' := by
  obtain ⟨ma, v, h1, h2, h3, h4, h5, h6⟩ := h
  exact list_calls h1
theorem Duo.len (h : Duo W Q w a rb n L M) : Calls Try.prog 12 #[ptr a] w fun e w' => e = .returned (.int .i64 (L.length : Int)) ∧ Below w.heap.size w w' := by
  obtain ⟨ma, v, h1, h2, h3, h4, h5, h6⟩ := h
  refine (len_calls h1).mono ?_
  rintro e w' ⟨rfl, rfl⟩
  exact ⟨rfl, Below.refl _ _⟩
theorem Duo.count (h : Duo W Q w a rb n L M) (m : Msg) : Calls Try.prog 13 #[ptr a, mv m] w fun e w' => e = .returned (.int .i64 (L.count m : Int)) ∧ Below w.heap.size w w' := by
  obtain ⟨ma, v, h1, h2, h3, h4, h5, h6⟩ := h
  exact count_calls h1 m
theorem Duo.rput (h : Duo W Q w a rb n L M) (m : Msg) : Calls Try.prog 21 #[ptr rb, mv m] w fun e w' => e = .returned (.int .i64 (putS n M m).2) ∧ Duo W Q w' a rb n L (putS n M m).1 ∧ Stay Q w w' := by
  obtain ⟨ma, v, h1, h2, h3, h4, h5, h6⟩ := h
  refine (rput_calls h2 m).mono ?_
  rintro e w' ⟨rfl, hP⟩
  exact ⟨rfl, Duo.stepR h1 h2 h3 h4 h5 h6 hP⟩
theorem Duo.rtwice (h : Duo W Q w a rb n L M) (i : Int) : Calls Try.prog 20 #[ptr rb, .int .i64 i] w fun e w' => e = .returned (.int .i64 (twiceS M i).2) ∧ Duo W Q w' a rb n L (twiceS M i).1 ∧ Stay Q w w' := by
  obtain ⟨ma, v, h1, h2, h3, h4, h5, h6⟩ := h
  refine (rtwice_calls h2 i).mono ?_
  rintro e w' ⟨rfl, hP⟩
  exact ⟨rfl, Duo.stepR h1 h2 h3 h4 h5 h6 hP⟩
theorem Duo.rdeliver (h : Duo W Q w a rb n L M) (i : Int) : Calls Try.prog 16 #[ptr rb, .int .i64 i] w fun e w' => e = .returned (.tuple #[mv (delS M i).2.1, .int .i64 (delS M i).2.2]) ∧ Duo W Q w' a rb n L (delS M i).1 ∧ Stay Q w w' := by
  obtain ⟨ma, v, h1, h2, h3, h4, h5, h6⟩ := h
  refine (rdeliver_calls h2 i).mono ?_
  rintro e w' ⟨rfl, hP⟩
  exact ⟨rfl, Duo.stepR h1 h2 h3 h4 h5 h6 hP⟩
theorem Duo.rlist (h : Duo W Q w a rb n L M) : Calls Try.prog 23 #[ptr rb] w fun e w' => ∃ v, e = .returned v ∧ w'.ownsRow w.heap.size 43 3 v (uniq M).length (flat (uniq M)) ∧ Below w.heap.size w w' := by
  obtain ⟨ma, v, h1, h2, h3, h4, h5, h6⟩ := h
  exact rlist_calls h2
theorem Duo.rcount (h : Duo W Q w a rb n L M) (m : Msg) : Calls Try.prog 24 #[ptr rb, mv m] w fun e w' => e = .returned (.int .i64 (M.count m : Int)) ∧ Below w.heap.size w w' := by
  obtain ⟨ma, v, h1, h2, h3, h4, h5, h6⟩ := h
  exact rcount_calls h2 m
end
end Go.Proofs.Ytmledapichlhdaa.Bag
