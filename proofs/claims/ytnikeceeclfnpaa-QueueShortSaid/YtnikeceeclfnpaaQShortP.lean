/-
  Who waits: plain Lean: who leaves brings those behind on by one.
-/
import Derived.Test.YtnikeceeclfnpaaQPlain
namespace Go.Proofs.Ytnikeceeclfnpaa
open Go.RowKit
set_option maxRecDepth 100000

theorem ofF_append (a b : List WaitP) (s : UInt8) : (ofF (a ++ b) s).length = (ofF a s).length + (ofF b s).length := by
  unfold ofF; rw [List.filter_append, List.map_append, List.length_append]
theorem ofF_one (x : WaitP) (s : UInt8) : (ofF [x] s).length = if x.2 = s then 1 else 0 := by
  unfold ofF
  by_cases h : x.2 = s <;> simp [h]
theorem take_split {L : List WaitP} {i j : Nat} (hij : j < i) (hi : i ≤ L.length) : L.take i = L.take j ++ [L[j]'(by omega)] ++ (L.drop (j + 1)).take (i - (j + 1)) := by
  rw [← List.take_succ_eq_append_getElem (by omega), ← List.take_add]
  congr 1
  omega
theorem erase_take2 {L : List WaitP} {i j : Nat} (hij : j < i) (hi : i ≤ L.length) : (L.eraseIdx j).take (i - 1) = L.take j ++ (L.drop (j + 1)).take (i - (j + 1)) := by
  rw [List.eraseIdx_eq_take_drop_succ, List.take_append, List.length_take, List.take_of_length_le (by rw [List.length_take]; omega)]
  congr 2
  omega
theorem leave_none {L : List WaitP} (hL : L.Nodup) {w v : WaitP} (h : w ∉ L ∨ v = w) : w ∉ (leaveF L v).1 := by
  rw [leaveF_eq]
  rcases h with h | rfl
  · split
    · intro hm; exact h ((List.eraseIdx_sublist _ _).subset hm)
    · exact h
  · split
    · rename_i hv
      intro hm
      obtain ⟨i, hi, hne, he⟩ := List.mem_eraseIdx_iff_getElem.1 hm
      have := idxOf_nodup hL hi
      rw [he] at this
      exact hne this.symm
    · rename_i hv; exact hv
theorem placeF_mem {L : List WaitP} {x : WaitP} (h : x ∈ L) : placeF L x = ((ofF (L.take (L.idxOf x)) x.2).length, true) := by unfold placeF; rw [if_pos h]
theorem placeF_not {L : List WaitP} {x : WaitP} (h : x ∉ L) : placeF L x = (0, false) := by unfold placeF; rw [if_neg h]
theorem short_law {L : List WaitP} (hL : L.Nodup) {w v : WaitP} (hw : w ∈ L) (hne : v ≠ w) :
    (placeF (leaveF L v).1 w).2 = true ∧ (placeF (leaveF L v).1 w).1 + (if (placeF L v).2 = true ∧ v.2 = w.2 ∧ (placeF L v).1 < (placeF L w).1 then 1 else 0) = (placeF L w).1 := by
  by_cases hv : v ∈ L
  · rw [leaveF_eq, if_pos hv]
    obtain ⟨j, hj, ej, hjj⟩ : ∃ j, ∃ h : j < L.length, L[j] = v ∧ L.idxOf v = j := ⟨_, List.idxOf_lt_length_of_mem hv, get_idxOf hv, rfl⟩
    obtain ⟨i, hi, ei, hii⟩ : ∃ i, ∃ h : i < L.length, L[i] = w ∧ L.idxOf w = i := ⟨_, List.idxOf_lt_length_of_mem hw, get_idxOf hw, rfl⟩
    rw [placeF_mem hv, placeF_mem hw, hjj, hii]
    clear hjj hii
    have hij : i ≠ j := by
      intro e
      subst e
      exact hne (ej.symm.trans ei)
    have hl := hL.sublist (List.eraseIdx_sublist L j)
    have hlen : (L.eraseIdx j).length = L.length - 1 := by rw [List.length_eraseIdx, if_pos hj]
    rcases Nat.lt_or_gt_of_ne hij with h | h
    · have hi' : i < (L.eraseIdx j).length := by omega
      have e : (L.eraseIdx j)[i] = w := by rw [List.getElem_eraseIdx, dif_pos h, ei]
      have hm : w ∈ L.eraseIdx j := by rw [← e]; exact List.getElem_mem hi'
      have hx := idxOf_nodup hl hi'
      rw [e] at hx
      rw [placeF_mem hm, hx]
      have ht : (L.eraseIdx j).take i = L.take i := by
        rw [List.eraseIdx_eq_take_drop_succ, List.take_append_of_le_length (by rw [List.length_take]; omega), List.take_take]
        congr 1
        omega
      rw [ht]
      refine ⟨rfl, ?_⟩
      simp only
      rw [if_neg]
      · omega
      · rintro ⟨_, h2, h3⟩
        have := count_lt (M := L) h (Nat.le_of_lt hj) (s := v.2) (by rw [ei, h2])
        rw [h2] at h3
        rw [h2] at this
        omega
    · have hi' : i - 1 < (L.eraseIdx j).length := by omega
      have e : (L.eraseIdx j)[i - 1] = w := by
        rw [List.getElem_eraseIdx, dif_neg (by omega)]
        have : i - 1 + 1 = i := by omega
        simp only [this]
        exact ei
      have hm : w ∈ L.eraseIdx j := by rw [← e]; exact List.getElem_mem hi'
      have hx := idxOf_nodup hl hi'
      rw [e] at hx
      rw [placeF_mem hm, hx]
      refine ⟨rfl, ?_⟩
      simp only
      rw [erase_take2 h (Nat.le_of_lt hi)]
      have hs := take_split (L := L) h (Nat.le_of_lt hi)
      rw [ej] at hs
      rw [hs, ofF_append, ofF_append, ofF_append, ofF_one]
      by_cases h2 : v.2 = w.2
      · rw [if_pos h2, h2, if_pos (by refine ⟨trivial, rfl, by omega⟩)]
        omega
      · rw [if_neg h2, if_neg (by rintro ⟨_, h3, _⟩; exact h2 h3)]
        omega
  · rw [leaveF_eq, if_neg hv, placeF_mem hw, placeF_not hv]
    exact ⟨rfl, by simp⟩

end Go.Proofs.Ytnikeceeclfnpaa
