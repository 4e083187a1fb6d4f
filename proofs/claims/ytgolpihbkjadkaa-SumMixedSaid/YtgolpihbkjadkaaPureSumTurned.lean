/- Of every text, every place and every pattern: what was turned is not opened, nor taken out of a block. -/
import Derived.Test.YtgolpihbkjadkaaPtx1
set_option linter.unusedVariables false
set_option linter.unusedSimpArgs false
namespace Go.Proofs.Ytgolpihbkjadkaa.Pure
open Go.RowKit Go.Proofs.Ytgolpihbkjadkaa.Pt Go.Proofs.YtgolpihbkjadkaaW.PrintWords Go.Proofs.YtgolpihbkjadkaaW.PrintLast Go.Proofs.Ytgolpihbkjadkaa.Spec Go.Proofs.Ytgolpihbkjadkaa.Ev Go.Proofs.Ytgolpihbkjadkaa.C Go.Proofs.Ytgolpihbkjadkaa.Given

theorem speaks_ok : cartularylaw03_speaks.f = some true := by
  have hsz := blockS_size (⟨#[97, 98]⟩ : ByteArray) (by decide)
  have e1 : sum_Block.f (⟨#[97, 98]⟩ : ByteArray) = some (blockS ⟨#[97, 98]⟩) := lim_ok _ (by decide)
  have e2 : sum_Unblock.f (blockS (⟨#[97, 98]⟩ : ByteArray)).1 = some (⟨#[97, 98]⟩, 0) := by
    unfold sum_Unblock.f
    rw [unblock_block _ (by decide)]
    exact lim_ok _ (by omega)
  have e3 : sum_Of.f (⟨#[49, 50, 51, 52, 53, 54, 55, 56, 57]⟩ : ByteArray) = some 3808858755 := by
    unfold sum_Of.f
    rw [crc_digits]
    exact lim_ok _ (by decide)
  have e4 : (blockS (⟨#[97, 98]⟩ : ByteArray)).2 = 0 := by unfold blockS; rw [if_neg (by decide)]
  have e5 : ((⟨#[97, 98]⟩ : ByteArray).toList == ([97, 98] : List UInt8)) = true := by rw [Go.Lib.toList_data]; rfl
  unfold cartularylaw03_speaks.f
  rw [e1, Option.bind_some, e2, Option.bind_some, e3, Option.bind_some, if_pos rfl, if_pos e4, if_pos rfl, if_pos (by omega), e5]
theorem seal_res (p : ByteArray) : crcFold 4294967295 (sealS p).data.toList = res := by
  have h4 : 4 ≤ (sealS p).size := by rw [sealS_size]; omega
  refine (sealed_iff (sealS p) h4).1 ?_
  have h := open_seal p
  unfold openS at h
  rw [if_neg (by omega)] at h
  by_cases hc : sealS ((sealS p).extract 0 ((sealS p).size - 4)) = sealS p
  · exact hc
  · rw [if_neg hc] at h
    have := congrArg Prod.snd h
    simp at this
theorem turned_seal (p : ByteArray) (a pat : Int) : openS (turnS (sealS p) a pat) = (⟨#[]⟩, 30) := turnS_open _ a pat (by rw [sealS_size]; omega) (seal_res p)
theorem turned_j0 (s : ByteArray) (a pat : Int) (h : s.size ≤ 122) : cartularylaw03_SumTurned.j0 2 s a pat = some true := by
  have hsz := blockS_size s h
  have e1 : sum_Block.f s = some (blockS s) := lim_ok _ (by omega)
  have e2 : (blockS s).2 = 0 := by unfold blockS; rw [if_neg (by omega)]
  have e3 : sum_Seal.f s = some (sealS s) := lim_ok _ (by omega)
  have e4 : cartularylaw03_turned.f (blockS s).1 a pat = some (turnS (blockS s).1 a pat) := by unfold cartularylaw03_turned.f; rw [if_pos (by omega), if_pos (by omega)]
  have e5 : cartularylaw03_turned.f (sealS s) a pat = some (turnS (sealS s) a pat) := by
    have := sealS_size s
    unfold cartularylaw03_turned.f; rw [if_pos (by omega), if_pos (by omega)]
  have hz1 := turnS_size (blockS s).1 a pat
  have hz2 := turnS_size (sealS s) a pat
  have e6 : sum_Open.f (turnS (sealS s) a pat) = some (⟨#[]⟩, 30) := by
    unfold sum_Open.f
    rw [turned_seal]
    exact lim_ok _ (by have := sealS_size s; omega)
  have hb : openS (turnS (blockS s).1 a pat) = (⟨#[]⟩, 30) := by
    have : (blockS s).1 = sealS (strOfNums (le s.size 2) ++ s ++ zeros (122 - s.size)) := by unfold blockS; rw [if_neg (by omega)]
    rw [this]
    exact turned_seal _ a pat
  have e7 : ∃ q, sum_Unblock.f (turnS (blockS s).1 a pat) = some (q, 30) := by
    have := lim_ok (unblockS (turnS (blockS s).1 a pat)) (s := turnS (blockS s).1 a pat) (by omega)
    refine ⟨⟨#[]⟩, this.trans ?_⟩
    unfold unblockS
    rw [if_neg (by omega), hb]
    rfl
  obtain ⟨q, e7⟩ := e7
  have e8 : (((blockS s).1.size : Int) != 128) = false := by rw [hsz]; rfl
  rw [cartularylaw03_SumTurned.j0, e1, Option.bind_some, if_pos e2, e8, cartularylaw03_SumTurned.j1, if_neg (by decide), e4, Option.bind_some, e3, Option.bind_some, e5, Option.bind_some, e7, Option.bind_some, e6, Option.bind_some, if_pos rfl, if_pos rfl, speaks_ok]
  rfl
theorem SumTurned : cartularylaw03_SumTurned.Pure := by
  intro s a pat hs _ _
  refine ⟨2, ?_⟩
  unfold cartularylaw03_SumTurned.f
  by_cases h : (s.size : Int) > 122
  · rw [if_pos h, if_pos (by omega), if_pos (by omega)]
    exact turned_j0 _ a pat (by rw [ByteArray.size_extract]; omega)
  · rw [if_neg h]
    exact turned_j0 _ a pat (by omega)
end Go.Proofs.Ytgolpihbkjadkaa.Pure
