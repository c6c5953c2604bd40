/-
  Who waits: plain Lean: nobody is passed by; who waits is served.
-/
import Derived.Test.YtnikeceeclfnpaaQWorks
namespace Go.Proofs.Ytnikeceeclfnpaa
open Go.RowKit
set_option maxRecDepth 100000

def playF (A : Nat → UInt8 × WaitP) : Nat → List WaitP
  | 0 => []
  | i + 1 => doF (playF A i) (A i).1 (A i).2
theorem joinF_eq (L : List WaitP) (x : WaitP) : (joinF L x).1 = if x ∈ L then L else L ++ [x] := by unfold joinF; split <;> rfl
theorem leaveF_eq (L : List WaitP) (x : WaitP) : (leaveF L x).1 = if x ∈ L then L.eraseIdx (L.idxOf x) else L := by unfold leaveF; split <;> rfl
theorem doF_nodup {L : List WaitP} (h : L.Nodup) (k : UInt8) (x : WaitP) : (doF L k x).Nodup := by
  unfold doF
  split
  · rw [joinF_eq]
    split
    · exact h
    · rename_i hx
      rw [List.nodup_append]
      refine ⟨h, by simp, fun a ha b hb => ?_⟩
      rw [List.mem_singleton] at hb
      subst hb
      intro e
      subst e
      exact hx ha
  · split
    · rw [leaveF_eq]
      split
      · exact h.sublist (List.eraseIdx_sublist _ _)
      · exact h
    · exact h.sublist List.filter_sublist
theorem doF_len (L : List WaitP) (k : UInt8) (x : WaitP) : (doF L k x).length ≤ L.length + 1 := by
  unfold doF
  split
  · rw [joinF_eq]; split <;> simp
  · split
    · rw [leaveF_eq]
      split
      · have := List.length_eraseIdx_le L (L.idxOf x); omega
      · omega
    · have := List.length_filter_le (keepQ x.1) L
      unfold quitF
      omega
theorem playF_nodup (A : Nat → UInt8 × WaitP) : ∀ i, (playF A i).Nodup
  | 0 => List.nodup_nil
  | i + 1 => doF_nodup (playF_nodup A i) _ _
theorem playF_len (A : Nat → UInt8 × WaitP) : ∀ i, (playF A i).length ≤ i
  | 0 => Nat.le_refl _
  | i + 1 => Nat.le_trans (doF_len _ _ _) (by have := playF_len A i; omega)
/-- in a list without twins each one stands where it stands -/
theorem idxOf_nodup {L : List WaitP} (h : L.Nodup) {i : Nat} (hi : i < L.length) : L.idxOf L[i] = i := by
  refine idxOf_first hi rfl (fun hm => ?_)
  obtain ⟨j, hj, e⟩ := List.getElem_of_mem hm
  rw [List.length_take] at hj
  rw [List.getElem_take] at e
  exact (List.pairwise_iff_getElem.1 h) j i (by omega) hi (by omega) e
theorem get_idxOf {L : List WaitP} {x : WaitP} (h : x ∈ L) : L[L.idxOf x]'(List.idxOf_lt_length_of_mem h) = x := List.getElem_idxOf _
/-- who stood ahead stands ahead, in any part of the list -/
theorem order_sub {L M : List WaitP} (hs : M.Sublist L) (hL : L.Nodup) {u v : WaitP} (hu : u ∈ M) (hv : v ∈ M) (h : L.idxOf v < L.idxOf u) : M.idxOf v < M.idxOf u := by
  have hM := hL.sublist hs
  have hp : L.Pairwise (fun a b => L.idxOf a < L.idxOf b) := by
    rw [List.pairwise_iff_getElem]
    intro i j hi hj hij
    rw [idxOf_nodup hL hi, idxOf_nodup hL hj]
    exact hij
  have hq := List.pairwise_iff_getElem.1 (hp.sublist hs)
  rcases Nat.lt_trichotomy (M.idxOf v) (M.idxOf u) with h1 | h1 | h1
  · exact h1
  · have e1 := get_idxOf hu
    have e2 := get_idxOf hv
    have : u = v := by
      rw [← e1, ← e2]
      congr 1
      exact h1.symm
    rw [this] at h
    omega
  · have := hq _ _ (List.idxOf_lt_length_of_mem hu) (List.idxOf_lt_length_of_mem hv) h1
    rw [get_idxOf hu, get_idxOf hv] at this
    omega
theorem order_do {L : List WaitP} (hL : L.Nodup) (k : UInt8) (x : WaitP) {u v : WaitP} (hu : u ∈ L) (hv : v ∈ L) (hu' : u ∈ doF L k x) (hv' : v ∈ doF L k x) (h : L.idxOf v < L.idxOf u) : (doF L k x).idxOf v < (doF L k x).idxOf u := by
  unfold doF at *
  split
  · rename_i hk
    rw [if_pos hk] at hu' hv'
    rw [joinF_eq] at *
    split
    · exact h
    · rw [List.idxOf_append, List.idxOf_append, if_pos hu, if_pos hv]; exact h
  · rename_i hk
    rw [if_neg hk] at hu' hv'
    split
    · rename_i hk2
      rw [if_pos hk2] at hu' hv'
      rw [leaveF_eq] at *
      split
      · rename_i hx
        rw [if_pos hx] at hu' hv'
        exact order_sub (List.eraseIdx_sublist _ _) hL hu' hv' h
      · exact h
    · rename_i hk2
      rw [if_neg hk2] at hu' hv'
      exact order_sub List.filter_sublist hL hu' hv' h
/-- how many wait ahead grows along the list -/
theorem count_lt {M : List WaitP} {i j : Nat} (hij : i < j) (hj : j ≤ M.length) {s : UInt8} (hs : (M[i]'(by omega)).2 = s) : (ofF (M.take i) s).length < (ofF (M.take j) s).length := by
  have h1 := ofF_snoc (L := M) (s := s) (k := i) (by omega)
  rw [if_pos hs] at h1
  have h2 : M.take j = M.take (i + 1) ++ (M.drop (i + 1)).take (j - (i + 1)) := by rw [← List.take_add]; congr 1; omega
  have h3 : (ofF (M.take j) s).length = (ofF (M.take (i + 1)) s).length + (ofF ((M.drop (i + 1)).take (j - (i + 1))) s).length := by
    rw [h2]; unfold ofF; rw [List.filter_append, List.map_append, List.length_append]
  rw [h3, h1, List.length_append]
  simp
  omega
theorem fifo_law {L : List WaitP} (hL : L.Nodup) (k : UInt8) (x : WaitP) {i j : Nat} (hi : i < L.length) (hj : j < i) :
    L[i] ≠ L[j] ∧ ((placeF (doF L k x) L[i]).2 = true → (placeF (doF L k x) L[j]).2 = true → L[i].2 = L[j].2 → (placeF (doF L k x) L[j]).1 < (placeF (doF L k x) L[i]).1) := by
  refine ⟨fun e => (List.pairwise_iff_getElem.1 hL) j i (by omega) hi hj e.symm, fun h1 h2 h3 => ?_⟩
  have hu : L[i] ∈ doF L k x := by
    unfold placeF at h1
    by_cases h : L[i] ∈ doF L k x
    · exact h
    · rw [if_neg h] at h1; cases h1
  have hv : L[j] ∈ doF L k x := by
    unfold placeF at h2
    by_cases h : L[j] ∈ doF L k x
    · exact h
    · rw [if_neg h] at h2; cases h2
  have ho := order_do hL k x (List.getElem_mem hi) (List.getElem_mem (by omega : j < L.length)) hu hv (by rw [idxOf_nodup hL hi, idxOf_nodup hL (by omega)]; exact hj)
  unfold placeF
  rw [if_pos hu, if_pos hv]
  simp only
  rw [h3]
  exact count_lt ho (Nat.le_of_lt (List.idxOf_lt_length_of_mem hu)) (by rw [get_idxOf hv])

end Go.Proofs.Ytnikeceeclfnpaa
