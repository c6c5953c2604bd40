/-
  Volumes, in plain Lean: what a 'Tear' does to each block.
-/
import Derived.Test.YtkemocbifancfaaVolDo
namespace Go.Proofs.Ytkemocbifancfaa
open Go.RowKit
set_option maxRecDepth 100000

/-- the reference's blocks are the volume's -/
def Match (nb sz : Nat) (bs : List (List UInt8)) (L : List UInt8) : Prop := bs.length = nb ∧ ∀ i (hi : i < bs.length), bs[i] = blk sz i L

theorem splice_get (L cs : List UInt8) (lo m : Nat) (hlo : lo + cs.length ≤ L.length) :
    (splice L lo cs)[m]? = if m < lo then L[m]? else if m < lo + cs.length then cs[m - lo]? else L[m]? := by
  unfold splice
  have h1 : (L.take lo).length = lo := by rw [List.length_take]; omega
  by_cases a : m < lo
  · rw [if_pos a]
    rw [List.getElem?_append_left (by omega), List.getElem?_take, if_pos a]
  · rw [if_neg a, List.getElem?_append_right (by omega), h1]
    by_cases b : m < lo + cs.length
    · rw [if_pos b, List.getElem?_append_left (by omega)]
    · rw [if_neg b, List.getElem?_append_right (by omega), List.getElem?_drop]
      congr 1
      omega
theorem blk_get (sz i m : Nat) (L : List UInt8) : (blk sz i L)[m]? = if m < sz then L[i * sz + m]? else none := by
  unfold blk
  rw [List.getElem?_take]
  split
  · rw [List.getElem?_drop]
  · rfl

theorem tear_match {nb sz N : Nat} {L : List UInt8} {bs : List (List UInt8)} (hN : nb * sz = N) (hL : L.length = N) (hm : Match nb sz bs L) (i : Int) (b : List UInt8) (n : Int) :
    Match nb sz (refTear sz bs i b n).1 (tearV nb sz L i b n).1 ∧ (refTear sz bs i b n).2 = (tearV nb sz L i b n).2 := by
  obtain ⟨hl, hb⟩ := hm
  unfold refTear tearV
  rw [hl]
  by_cases h1 : i < 0 ∨ (nb : Int) ≤ i
  · rw [if_pos h1, if_pos h1]; exact ⟨⟨hl, hb⟩, rfl⟩
  · rw [if_neg h1, if_neg h1]
    by_cases h2 : sz < b.length
    · rw [if_pos h2, if_pos h2]; exact ⟨⟨hl, hb⟩, rfl⟩
    · rw [if_neg h2, if_neg h2]
      obtain ⟨j, rfl⟩ : ∃ j : Nat, i = j := ⟨i.toNat, by omega⟩
      have hj : j < nb := by omega
      simp only [Int.toNat_natCast]
      refine ⟨⟨by rw [List.length_set, hl], fun q hq => ?_⟩, trivial⟩
      rw [List.length_set, hl] at hq
      have hwl : (whole sz b).length = sz := by unfold whole; simp; omega
      have hk : ((whole sz b).take (clampN n sz)).length = clampN n sz := by rw [List.length_take, hwl]; unfold clampN; omega
      have hkl : clampN n sz ≤ sz := by unfold clampN; omega
      have hjs := mul_step hN hj
      have hqs := mul_step hN hq
      have hold : bs.getD j [] = blk sz j L := by rw [List.getD_eq_getElem?_getD, List.getElem?_eq_getElem (by omega)]; exact hb j (by omega)
      have hoL : (blk sz j L).length = sz := by unfold blk; rw [List.length_take, List.length_drop]; omega
      refine List.ext_getElem? fun m => ?_
      rw [List.getElem_set, blk_get]
      unfold tearL
      by_cases hms : m < sz
      · rw [if_pos hms, splice_get _ _ _ _ (by omega), hk]
        by_cases hjq : j = q
        · subst hjq
          rw [if_pos rfl, hold, if_neg (by omega)]
          unfold tearB
          by_cases hmk : m < clampN n sz
          · rw [if_pos (by omega), List.getElem?_append_left (by omega)]
            congr 1
            omega
          · rw [if_neg (by omega), List.getElem?_append_right (by omega), hk, List.getElem?_drop, blk_get, if_pos (by omega)]
            congr 1
            omega
        · rw [if_neg hjq, hb q (by omega), blk_get, if_pos hms]
          by_cases hlt : q < j
          · have := Nat.mul_le_mul_right sz (show q + 1 ≤ j from hlt)
            rw [Nat.add_mul, Nat.one_mul] at this
            rw [if_pos (by omega)]
          · have := Nat.mul_le_mul_right sz (show j + 1 ≤ q by omega)
            rw [Nat.add_mul, Nat.one_mul] at this
            rw [if_neg (by omega), if_neg (by omega)]
      · rw [if_neg hms]
        by_cases hjq : j = q
        · subst hjq
          rw [if_pos rfl, hold, List.getElem?_eq_none (by rw [tearB_length hoL (by omega)]; omega)]
        · rw [if_neg hjq, hb q (by omega), blk_get, if_neg hms]

end Go.Proofs.Ytkemocbifancfaa
