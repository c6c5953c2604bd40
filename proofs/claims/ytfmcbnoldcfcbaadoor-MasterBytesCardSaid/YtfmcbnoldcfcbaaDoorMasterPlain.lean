/-
  Plain Lean: what is encoded is decoded; what is torn.
-/
import Derived.Test.YtfmcbnoldcfcbaaDoorMasterPick
namespace Go.Proofs.YtfmcbnoldcfcbaaDoor
open Go.RowKit

theorem wrap64_id (x : Int) (h0 : 0 ≤ x) (h1 : x ≤ 9223372036854775807) : wrap64 ((x.toNat : Nat) : Int) = x := by
  unfold wrap64; omega
theorem drop_at {α : Type} {p q : List α} {n : Nat} (h : p.length = n) : (p ++ q).drop n = q := by subst h; exact List.drop_left
theorem take_at {α : Type} {p q : List α} {n : Nat} (h : p.length = n) : (p ++ q).take n = p := by subst h; exact List.take_left
theorem val_at {x n : Nat} (h : x < 2 ^ (8 * n)) : valN (numB x n) = x := by rw [valN_numB, Nat.mod_eq_of_lt h]

theorem master_parts (m : MasterV) (more : List UInt8) :
    (masterB m ++ more).take 8 = numB m.gen 8 ∧ ((masterB m ++ more).drop 37).take 8 = numB m.gen 8 ∧ (masterB m ++ more).take 33 = bodyM m ∧ ((masterB m ++ more).drop 33).take 4 = numB (sumN (bodyM m)) 4 ∧
    ((masterB m ++ more).drop 8).take 1 = [m.area] ∧ ((masterB m ++ more).drop 9).take 8 = numB m.redo.toNat 8 ∧ ((masterB m ++ more).drop 17).take 8 = numB m.tab.toNat 8 ∧ ((masterB m ++ more).drop 25).take 8 = numB m.size.toNat 8 := by
  obtain ⟨S, hS⟩ : ∃ S, sumN (bodyM m) = S := ⟨_, rfl⟩
  have e : masterB m ++ more = bodyM m ++ (numB S 4 ++ (numB m.gen 8 ++ more)) := by unfold masterB; rw [hS]; simp only [List.append_assoc]
  have b := bodyM_length m
  have e1 : masterB m ++ more = numB m.gen 8 ++ ([m.area] ++ (numB m.redo.toNat 8 ++ (numB m.tab.toNat 8 ++ (numB m.size.toNat 8 ++ (numB S 4 ++ (numB m.gen 8 ++ more)))))) := by rw [e]; unfold bodyM; simp only [List.append_assoc]
  have e2 : masterB m ++ more = (numB m.gen 8 ++ [m.area]) ++ (numB m.redo.toNat 8 ++ (numB m.tab.toNat 8 ++ (numB m.size.toNat 8 ++ (numB S 4 ++ (numB m.gen 8 ++ more))))) := by rw [e1]; simp only [List.append_assoc]
  have e3 : masterB m ++ more = (numB m.gen 8 ++ [m.area] ++ numB m.redo.toNat 8) ++ (numB m.tab.toNat 8 ++ (numB m.size.toNat 8 ++ (numB S 4 ++ (numB m.gen 8 ++ more)))) := by rw [e1]; simp only [List.append_assoc]
  have e4 : masterB m ++ more = (numB m.gen 8 ++ [m.area] ++ numB m.redo.toNat 8 ++ numB m.tab.toNat 8) ++ (numB m.size.toNat 8 ++ (numB S 4 ++ (numB m.gen 8 ++ more))) := by rw [e1]; simp only [List.append_assoc]
  have e5 : masterB m ++ more = (bodyM m ++ numB S 4) ++ (numB m.gen 8 ++ more) := by rw [e]; simp only [List.append_assoc]
  refine ⟨?_, ?_, ?_, ?_, ?_, ?_, ?_, ?_⟩
  · rw [e1, take_at (numB_length _ _)]
  · rw [e5, drop_at (by simp [b, numB_length]), take_at (numB_length _ _)]
  · rw [e, take_at b]
  · rw [e, drop_at b, take_at (numB_length _ _), hS]
  · rw [e1, drop_at (numB_length _ _)]
    rfl
  · rw [e2, drop_at (by simp [numB_length]), take_at (numB_length _ _)]
  · rw [e3, drop_at (by simp [numB_length]), take_at (numB_length _ _)]
  · rw [e4, drop_at (by simp [numB_length]), take_at (numB_length _ _)]

theorem dec_enc {m : MasterV} (hm : m.ok) (hg : GoodM m) (more : List UInt8) : decM (masterB m ++ more) = (m, 0) := by
  obtain ⟨h1, h2, h3, h4, h5, h6, h7, h8⟩ := master_parts m more
  obtain ⟨g1, g2, g3, g4, g5⟩ := hg
  have hmr := hm.r; have hmt := hm.t; have hms := hm.s
  have hp : parseM (masterB m ++ more) = m := by
    unfold parseM
    rw [h1, h5, h6, h7, h8, val_at hm.gen, val_at (show m.redo.toNat < 2 ^ (8 * 8) by omega), val_at (show m.tab.toNat < 2 ^ (8 * 8) by omega), val_at (show m.size.toNat < 2 ^ (8 * 8) by omega), wrap64_id _ g3 hmr.2, wrap64_id _ (by omega) hmt.2, wrap64_id _ g5 hms.2]
    simp [valN]
  unfold decM
  rw [if_neg (by rw [List.length_append, masterB_length]; omega), if_neg (by rw [h1, h2]; simp), if_neg (by rw [h3, h4, val_at (sumN_lt _)]; simp), hp, if_pos ⟨g1, g2, g3, g4, g5⟩]

/-- WHAT IS TORN: the one, the other, or nothing -/
theorem torn_law {o m : MasterV} (ho : o.ok) (hm : m.ok) (hne : o.gen ≠ m.gen) (k : Nat) (hk : k ≤ 45) :
    (decM ((masterB m).take k ++ (masterB o).drop k)).2 ≠ 0 ∨ (masterB m).take k ++ (masterB o).drop k = masterB o ∨ (masterB m).take k ++ (masterB o).drop k = masterB m := by
  have lo := masterB_length o
  have lm := masterB_length m
  obtain ⟨o1, o2, _⟩ := master_parts o []
  obtain ⟨m1, m2, _⟩ := master_parts m []
  rw [List.append_nil] at o1 o2 m1 m2
  have hgen : numB o.gen 8 ≠ numB m.gen 8 := fun h => hne (by
    have := congrArg valN h
    rwa [val_at ho.gen, val_at hm.gen] at this)
  have lt : ((masterB m).take k).length = k := by rw [List.length_take]; omega
  have ld : ((masterB o).drop k).length = 45 - k := by rw [List.length_drop]; omega
  by_cases hh : ((masterB m).take k ++ (masterB o).drop k).take 8 = (((masterB m).take k ++ (masterB o).drop k).drop 37).take 8
  · right
    by_cases k37 : k ≤ 37
    · left
      have ht : (((masterB m).take k ++ (masterB o).drop k).drop 37).take 8 = numB o.gen 8 := by
        rw [List.drop_append, List.drop_of_length_le (by omega), List.nil_append, lt, List.drop_drop, show k + (37 - k) = 37 by omega]
        exact o2
      rw [ht] at hh
      by_cases k8 : 8 ≤ k
      · exfalso
        rw [List.take_append_of_le_length (by omega), List.take_take, Nat.min_eq_left k8, m1] at hh
        exact hgen hh.symm
      · rw [← o1, List.take_append, List.take_of_length_le (by omega), lt] at hh
        have hs : (masterB o).take 8 = (masterB o).take k ++ ((masterB o).drop k).take (8 - k) := by
          conv => lhs; rw [← List.take_append_drop k (masterB o)]
          rw [List.take_append, List.take_of_length_le (by rw [List.length_take]; omega), List.length_take, Nat.min_eq_left (by omega)]
        rw [hs] at hh
        have := (List.append_inj hh (by rw [lt, List.length_take]; omega)).1
        rw [this, List.take_append_drop]
    · right
      have ht : ((masterB m).take k ++ (masterB o).drop k).take 8 = numB m.gen 8 := by
        rw [List.take_append_of_le_length (by omega), List.take_take, Nat.min_eq_left (by omega), m1]
      rw [ht, ← m2] at hh
      have hd : ((masterB m).drop 37).take 8 = ((masterB m).take k).drop 37 ++ (masterB m).drop k := by
        rw [List.take_of_length_le (by rw [List.length_drop]; omega)]
        conv => lhs; rw [← List.take_append_drop k (masterB m)]
        rw [List.drop_append, lt, show 37 - k = 0 by omega, List.drop_zero]
      have hc : (((masterB m).take k ++ (masterB o).drop k).drop 37).take 8 = ((masterB m).take k).drop 37 ++ (masterB o).drop k := by
        rw [List.take_of_length_le (by rw [List.length_drop, List.length_append, lt, ld]; omega), List.drop_append, lt, show 37 - k = 0 by omega, List.drop_zero]
      rw [hd, hc] at hh
      have := (List.append_inj hh rfl).2
      rw [← this, List.take_append_drop]
  · left
    unfold decM
    rw [if_neg (by rw [List.length_append, lt, ld]; omega), if_pos hh]
    decide
theorem sum_zero : sumN (List.replicate 33 0) ≠ 0 := by unfold sumN; rw [sumF_bv]; decide +kernel
theorem dec_zero : decM (List.replicate 64 0) = (zeroM, 9) := by
  unfold decM
  rw [if_neg (by simp), if_neg (by simp), if_pos]
  rw [show (List.replicate 64 (0 : UInt8)).take 33 = List.replicate 33 0 from rfl]
  exact sum_zero

end Go.Proofs.YtfmcbnoldcfcbaaDoor
