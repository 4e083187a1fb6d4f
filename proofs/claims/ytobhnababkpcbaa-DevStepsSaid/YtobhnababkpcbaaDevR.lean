/- A device in memory: Blocks, Waits, look, Read, Lasts. -/
import Derived.Test.YtobhnababkpcbaaDev
set_option linter.unusedVariables false
set_option linter.unusedSimpArgs false
namespace Go.Proofs.Ytobhnababkpcbaa.Dev
open Go.RowKit Go.Proofs.YtobhnababkpcbaaW.PrintWords Go.Proofs.YtobhnababkpcbaaW.PrintLast Go.Proofs.YtobhnababkpcbaaW.PrintMore Go.Proofs.Ytobhnababkpcbaa.Maps Go.Proofs.Ytobhnababkpcbaa.DevS Go.Proofs.Ytobhnababkpcbaa.Given

def ptr (b : Nat) : Value := .pointer (some ⟨b, 0, none⟩)
def wv (q : List (Int × ByteArray)) : List Value := q.flatMap fun p => [.int .i64 p.1, .string p.2]
theorem wv_length (q : List (Int × ByteArray)) : (wv q).length = q.length * 2 := by
  induction q with
  | nil => rfl
  | cons p q ih => simp only [wv, List.flatMap_cons, List.length_append, List.length_cons, List.length_nil] at *; omega
structure DevIs (B : Nat) (w : World) (db lb sb : Nat) (v : Value) (d : D) : Prop where
  dev : w.heap[db]? = some (.cells #[.int .i64 d.n, .map (some lb), .map (some sb), v] 56 (0, 0))
  row : w.ownsRow B 58 2 v d.q.length (wv d.q)
  la : MapF w kp lb (vs d.la)
  se : MapF w kp sb (vs d.se)
  bd : B ≤ db
  bl : B ≤ lb
  bs : B ≤ sb
  ne : lb ≠ sb
  wf : Wf d
def fp (db lb sb : Nat) (v : Value) (k : Nat) : Prop := k = db ∨ k = lb ∨ k = sb ∨ v.ownBlock = some k
section
variable {B db lb sb : Nat} {v : Value} {d : D} {w w' : World} {f : Nat → Prop}
theorem DevIs.fp_ge (h : DevIs B w db lb sb v d) {k : Nat} (hk : fp db lb sb v k) : B ≤ k := by
  rcases hk with rfl | rfl | rfl | hk
  · exact h.bd
  · exact h.bl
  · exact h.bs
  · exact own_base h.row k hk
theorem DevIs.fp_lt (h : DevIs B w db lb sb v d) {k : Nat} (hk : fp db lb sb v k) : k < w.heap.size := by
  rcases hk with rfl | rfl | rfl | hk
  · exact blk_lt h.dev
  · exact h.la.lt
  · exact h.se.lt
  · exact own_lt h.row k hk
theorem DevIs.step (h : DevIs B w db lb sb v d) (hb : ∀ k, fp db lb sb v k → w'.heap[k]? = w.heap[k]?) : DevIs B w' db lb sb v d where
  dev := (hb db (.inl rfl)).trans h.dev
  row := by
    refine ⟨h.row.1, ?_⟩
    rcases h.row.2 with hn | ⟨g, cap, cur, rfl, hbb, hgg, rest⟩
    · exact .inl hn
    · exact .inr ⟨g, cap, cur, rfl, hbb, (hb g (.inr (.inr (.inr rfl)))).trans hgg, rest⟩
  la := h.la.of_block (hb lb (.inr (.inl rfl)))
  se := h.se.of_block (hb sb (.inr (.inr (.inl rfl))))
  bd := h.bd
  bl := h.bl
  bs := h.bs
  ne := h.ne
  wf := h.wf
theorem DevIs.below (h : DevIs B w db lb sb v d) (hb : Below w.heap.size w w') : DevIs B w' db lb sb v d := h.step (fun k hk => hb.block k (h.fp_lt hk))
theorem DevIs.fr (h : DevIs B w db lb sb v d) (hf : Fr w w' f) (hd : ∀ k, fp db lb sb v k → ¬ f k) : DevIs B w' db lb sb v d := h.step (fun k hk => hf.block k (h.fp_lt hk) (hd k hk))
theorem DevIs.c0 (h : DevIs B w db lb sb v d) : w.cell? ⟨db, 0, none⟩ = some (.int .i64 d.n) := (blk_cell h.dev 0).trans rfl
theorem DevIs.c1 (h : DevIs B w db lb sb v d) : w.cell? ⟨db, 1, none⟩ = some (.map (some lb)) := (blk_cell h.dev 1).trans rfl
theorem DevIs.c2 (h : DevIs B w db lb sb v d) : w.cell? ⟨db, 2, none⟩ = some (.map (some sb)) := (blk_cell h.dev 2).trans rfl
theorem DevIs.c3 (h : DevIs B w db lb sb v d) : w.cell? ⟨db, 3, none⟩ = some v := (blk_cell h.dev 3).trans rfl
theorem DevIs.slice (h : DevIs B w db lb sb v d) : ∃ A c, v = .slice A d.q.length c := own_slice h.row

set_option maxRecDepth 100000 in
theorem blocks_calls (h : DevIs B w db lb sb v d) : Calls Try.prog 22 #[ptr db] w fun e w' => e = .returned (.int .i64 d.n) ∧ w' = w := by
  have hu := Try.underlying56
  have hup := Try.underlying24
  have c0 := h.c0
  unfold ptr
  clear h
  go_enter Try.func22, Try.ntmps22
  go_wp2
  go_ret
  exact ⟨rfl, rfl⟩
set_option maxRecDepth 100000 in
theorem blocks_nil (w : World) : Calls Try.prog 22 #[.pointer none] w fun e w' => e = .returned (.int .i64 0) ∧ w' = w := by
  have hu := Try.underlying56
  have hup := Try.underlying24
  go_enter Try.func22, Try.ntmps22
  go_wp2
  go_ret
  exact ⟨rfl, rfl⟩
set_option maxRecDepth 100000 in
theorem waits_calls (h : DevIs B w db lb sb v d) : Calls Try.prog 21 #[ptr db] w fun e w' => e = .returned (.int .i64 d.q.length) ∧ w' = w := by
  have hu := Try.underlying56
  have hup := Try.underlying24
  obtain ⟨A, c, rfl⟩ := h.slice
  have c3 := h.c3
  unfold ptr
  clear h
  go_enter Try.func21, Try.ntmps21
  go_wp2
  go_ret
  exact ⟨rfl, rfl⟩
set_option maxRecDepth 100000 in
theorem waits_nil (w : World) : Calls Try.prog 21 #[.pointer none] w fun e w' => e = .returned (.int .i64 0) ∧ w' = w := by
  have hu := Try.underlying56
  have hup := Try.underlying24
  go_enter Try.func21, Try.ntmps21
  go_wp2
  go_ret
  exact ⟨rfl, rfl⟩
end
theorem zero9 (w : World) : (zeroValue 9).run Try.prog w = .ok (.string ⟨#[]⟩) w := by simp [Try.zeroValue9, go_sem]
theorem zeros_alloc (W : World) : (convert 60 9 (.slice (some ⟨W.heap.size, 0, none⟩) 128 128)).run Try.prog (W.alloc (.cells (nums .u8 (filled 0 0)).toArray 5)) = .ok (.string (blockB 0)) (W.alloc (.cells (nums .u8 (filled 0 0)).toArray 5)) := by
  refine run_convert_bytes_arg (P := Try.prog) _ 60 5 Try.underlying60 Try.underlying5 W.heap.size 0 128 128 (List.replicate 128 0) List.length_replicate (fun j hj => ?_) 9 Try.underlying9
  have e : filled 0 0 = List.replicate 128 0 := by unfold filled; simp
  rw [Nat.zero_add, blk_cell (blk_new W _) j, e, nums_get .u8 _ j (by rw [List.length_replicate]; exact hj)]
theorem zeros_make : ∀ W : World, (Instr.makeSlice 60 (.int .i64 128) (.int .i64 128)).run Try.prog W = .ok (.slice (some ⟨W.heap.size, 0, none⟩) 128 128) (W.alloc (.cells (nums .u8 (filled 0 0)).toArray 5)) := by
  have km := print_make (P := Try.prog) 60 5 .u8 1 Try.underlying60 info5 (by decide) 128 (by omega)
  have hm : madeCells #[Value.int .u8 0] 128 = (nums .u8 (filled 0 0)).toArray := by kernel_rfl
  rw [hm] at km
  exact km
set_option maxHeartbeats 800000 in
set_option maxRecDepth 100000 in
theorem look_calls (r : Value) (mb : Nat) (f : F) (a : Int) (w : World) (h : MapF w kp mb (vs f)) :
    Calls Try.prog 25 #[r, .map (some mb), .int .i64 a] w fun e w' => e = .returned (.string (DevS.look f a)) ∧ Below w.heap.size w w' := by
  have hl := h.lookup_ok keyLaw Try.underlying53 (zero9 w) a
  replace hl : (Instr.lookup 53 (.map (some mb)) (.agg #[.int .i64 a]) true).run Try.prog w = .ok (.tuple #[(vs f a).getD (.string ⟨#[]⟩), .bool (vs f a).isSome]) w := hl
  have hu := Try.underlying62
  have km := zeros_make
  have kc := zeros_alloc
  clear h
  unfold DevS.look
  unfold vs at hl
  cases hf : f a with
  | none =>
    rw [hf] at hl
    simp only [Option.map_none, Option.getD_none, Option.isSome_none] at hl
    go_enter Try.func25, Try.ntmps25
    go_wp2
    go_ret
    exact ⟨rfl, by first | exact below_alloc (below_drew1 (Below.refl _ _)) _ | exact below_alloc (Below.refl _ _) _ | exact below_drew1 (below_alloc (Below.refl _ _) _)⟩
  | some s =>
    rw [hf] at hl
    simp only [Option.map_some, Option.getD_some, Option.isSome_some] at hl
    go_enter Try.func25, Try.ntmps25
    go_wp2
    go_ret
    exact ⟨rfl, Below.refl _ _⟩
section
variable {B db lb sb : Nat} {v : Value} {d : D} {w w' : World}
set_option maxHeartbeats 800000 in
set_option maxRecDepth 100000 in
theorem read_calls (h : DevIs B w db lb sb v d) (a : Int) : Calls Try.prog 13 #[ptr db, .int .i64 a] w fun e w' => e = .returned (.tuple #[.string (dRead d a).1, .int .i64 (dRead d a).2]) ∧ Below w.heap.size w w' := by
  have hu := Try.underlying56
  have hup := Try.underlying24
  have H := Aside0.mk h
  have c2 := h.c2
  have HS := Aside0.mk h.se
  have HB := Aside0.mk (blocks_calls h)
  clear h
  by_cases h1 : a < 0
  · have b1 : decide (a < 0) = true := decide_eq_true h1
    have e : dRead d a = (⟨#[]⟩, 6) := if_neg (fun hh => by have := hh.1; omega)
    rw [e]
    unfold ptr
    go_enter Try.func13, Try.ntmps13
    go_wp2_with fail
    go_ret2
    exact ⟨rfl, Below.refl _ _⟩
  · have b1 : decide (a < 0) = false := decide_eq_false h1
    by_cases h2 : a ≥ (d.n : Int)
    · have b2 : decide (a ≥ (d.n : Int)) = true := decide_eq_true h2
      have e : dRead d a = (⟨#[]⟩, 6) := if_neg (fun hh => by have := hh.2; omega)
      rw [e]
      unfold ptr at *
      go_enter Try.func13, Try.ntmps13
      go_wp2_with fail
      refine HB.out.mono ?_
      rintro e w1 ⟨rfl, rfl⟩
      go_wp2_with fail
      go_ret2
      exact ⟨rfl, Below.refl _ _⟩
    · have b2 : decide (a ≥ (d.n : Int)) = false := decide_eq_false h2
      have e : dRead d a = (DevS.look d.se a, 0) := if_pos ⟨by omega, by omega⟩
      rw [e]
      unfold ptr at *
      have HL := Aside0.mk (look_calls (.pointer (some ⟨db, 0, none⟩)) sb d.se a w HS.out)
      go_enter Try.func13, Try.ntmps13
      go_wp2_with fail
      refine HB.out.mono ?_
      rintro e w1 ⟨rfl, rfl⟩
      go_wp2_with fail
      refine HL.out.mono ?_
      rintro e w2 ⟨rfl, hb⟩
      have P := Aside0.mk hb
      clear hb
      go_wp2_with fail
      go_ret2
      exact ⟨rfl, P.out⟩
set_option maxHeartbeats 800000 in
set_option maxRecDepth 100000 in
theorem lasts_calls (h : DevIs B w db lb sb v d) (a : Int) : Calls Try.prog 14 #[ptr db, .int .i64 a] w fun e w' => e = .returned (.tuple #[.string (dLasts d a).1, .int .i64 (dLasts d a).2]) ∧ Below w.heap.size w w' := by
  have hu := Try.underlying56
  have hup := Try.underlying24
  have c1 := h.c1
  have HS := Aside0.mk h.la
  have HB := Aside0.mk (blocks_calls h)
  clear h
  by_cases h1 : a < 0
  · have b1 : decide (a < 0) = true := decide_eq_true h1
    have e : dLasts d a = (⟨#[]⟩, 6) := if_neg (fun hh => by have := hh.1; omega)
    rw [e]
    unfold ptr
    go_enter Try.func14, Try.ntmps14
    go_wp2_with fail
    go_ret2
    exact ⟨rfl, Below.refl _ _⟩
  · have b1 : decide (a < 0) = false := decide_eq_false h1
    by_cases h2 : a ≥ (d.n : Int)
    · have b2 : decide (a ≥ (d.n : Int)) = true := decide_eq_true h2
      have e : dLasts d a = (⟨#[]⟩, 6) := if_neg (fun hh => by have := hh.2; omega)
      rw [e]
      unfold ptr at *
      go_enter Try.func14, Try.ntmps14
      go_wp2_with fail
      refine HB.out.mono ?_
      rintro e w1 ⟨rfl, rfl⟩
      go_wp2_with fail
      go_ret2
      exact ⟨rfl, Below.refl _ _⟩
    · have b2 : decide (a ≥ (d.n : Int)) = false := decide_eq_false h2
      have e : dLasts d a = (DevS.look d.la a, 0) := if_pos ⟨by omega, by omega⟩
      rw [e]
      unfold ptr at *
      have HL := Aside0.mk (look_calls (.pointer (some ⟨db, 0, none⟩)) lb d.la a w HS.out)
      go_enter Try.func14, Try.ntmps14
      go_wp2_with fail
      refine HB.out.mono ?_
      rintro e w1 ⟨rfl, rfl⟩
      go_wp2_with fail
      refine HL.out.mono ?_
      rintro e w2 ⟨rfl, hb⟩
      have P := Aside0.mk hb
      clear hb
      go_wp2_with fail
      go_ret2
      exact ⟨rfl, P.out⟩
end
end Go.Proofs.Ytobhnababkpcbaa.Dev
