/-
  FrameTurns.
-/
import Derived.Test.YthpoccjlhcpoiaaDoorFrameCuts
import Derived.Test.YthpoccjlhcpoiaaDoorCrcBurst
namespace Go.Proofs.YthpoccjlhcpoiaaDoor
open Go.RowKit

/-- what stands ahead of a payload -/
def headB (p : List UInt8) : List UInt8 := numB p.length 2 ++ numB (sumN p) 4
theorem headB_length (p : List UInt8) : (headB p).length = 6 := by simp [headB, numB_length]
theorem frameB_head (p : List UInt8) : frameB p = headB p ++ p := rfl

theorem scan_pre : ∀ (qs : List (List UInt8)), (∀ p ∈ qs, fits p = true) → ∀ r, scanF (allF qs ++ r) = (qs ++ (scanF r).1, (allF qs).length + (scanF r).2.1, (scanF r).2.2) := by
  intro qs
  induction qs with
  | nil => intro _ r; simp [allF]
  | cons p qs ih =>
    intro h r
    have hp := h p (List.mem_cons_self ..)
    have hall : allF (p :: qs) = frameB p ++ allF qs := by unfold allF; rw [List.flatMap_cons]
    rw [hall, List.append_assoc, scanF_ok (next_frame hp _)]
    have hd : (frameB p ++ (allF qs ++ r)).drop (6 + p.length) = allF qs ++ r := by rw [← frameB_length, List.drop_left]
    rw [hd, ih (fun q hq => h q (List.mem_cons_of_mem p hq)) r, List.length_append, frameB_length]
    simp only
    rw [Nat.add_assoc (6 + p.length)]
    rfl
theorem next_turned {p c r : List UInt8} (hp : fits p = true) (hl : c.length = p.length) (hs : sumN c ≠ sumN p) : nextF (headB p ++ (c ++ r)) = ([], 0, 9) := by
  obtain ⟨h1, h2⟩ := fits_iff.1 hp
  have e2 : (headB p ++ (c ++ r)).take 2 = numB p.length 2 := by
    unfold headB
    rw [List.append_assoc, List.take_append_of_le_length (by simp [numB_length]), List.take_of_length_le (by simp [numB_length])]
  have e4 : ((headB p ++ (c ++ r)).drop 2).take 4 = numB (sumN p) 4 := by
    unfold headB
    rw [List.append_assoc, List.drop_append_of_le_length (by simp [numB_length]), List.drop_of_length_le (by simp [numB_length]), List.nil_append, List.take_append_of_le_length (by simp [numB_length]), List.take_of_length_le (by simp [numB_length])]
  have e6 : (headB p ++ (c ++ r)).drop 6 = c ++ r := by
    rw [← headB_length p, List.drop_left]
  unfold nextF
  rw [e2, e4, e6, valN_numB, Nat.mod_eq_of_lt (show p.length < 2 ^ (8 * 2) by omega), valN_numB, Nat.mod_eq_of_lt (show sumN p < 2 ^ (8 * 4) from sumN_lt p), List.length_append, List.length_append, headB_length, if_neg (by omega), if_neg (by omega), if_neg (by omega), ← hl, List.take_left, if_pos hs]

/-- all, with the payload at k as c -/
def withC (ps : List (List UInt8)) (k : Nat) (p c : List UInt8) : List UInt8 := allF (ps.take k) ++ (headB p ++ (c ++ allF (ps.drop (k + 1))))
theorem withC_same {ps : List (List UInt8)} {k : Nat} {p : List UInt8} (h : ps[k]? = some p) : withC ps k p p = allF ps := by
  obtain ⟨hk, hp⟩ := List.getElem?_eq_some_iff.1 h
  have e : ps = ps.take k ++ p :: ps.drop (k + 1) := by
    rw [← hp]
    simp
  unfold withC
  conv => rhs; rw [e]
  unfold allF
  rw [List.flatMap_append, List.flatMap_cons, frameB_head, List.append_assoc]
theorem withC_scan {ps : List (List UInt8)} {k : Nat} {p c : List UInt8} (hfit : ∀ p ∈ ps, fits p = true) (h : ps[k]? = some p) (hl : c.length = p.length) (hs : sumN c ≠ sumN p) :
    scanF (withC ps k p c) = (ps.take k, (allF (ps.take k)).length, 9) := by
  unfold withC
  have hp : fits p = true := hfit p (List.mem_of_getElem? h)
  rw [scan_pre (ps.take k) (fun q hq => hfit q (List.mem_of_mem_take hq)), scanF_bad (by simp [headB_length]) (next_turned hp hl hs) (by decide)]
  simp
theorem whole_scan {ps : List (List UInt8)} (hfit : ∀ p ∈ ps, fits p = true) : scanF (allF ps) = (ps, (allF ps).length, 0) := by
  have := scan_pre ps hfit []
  rw [List.append_nil] at this
  rw [this, scanF_nil rfl]
  simp
theorem withC_set {ps : List (List UInt8)} {k : Nat} {p c : List UInt8} {j : Nat} {x : UInt8} (hj : j < c.length) : (withC ps k p c).set ((allF (ps.take k)).length + 6 + j) x = withC ps k p (c.set j x) := by
  unfold withC
  rw [List.set_append_right _ _ (by omega), List.set_append_right _ _ (by rw [headB_length]; omega), List.set_append_left _ _ (by rw [headB_length]; omega), headB_length]
  congr 4
  omega
theorem withC_get {ps : List (List UInt8)} {k : Nat} {p c : List UInt8} {j : Nat} (hj : j < c.length) : (withC ps k p c)[(allF (ps.take k)).length + 6 + j]? = some c[j] := by
  unfold withC
  rw [List.getElem?_append_right (by omega), List.getElem?_append_right (by rw [headB_length]; omega), List.getElem?_append_left (by rw [headB_length]; omega), headB_length, show (allF (ps.take k)).length + 6 + j - (allF (ps.take k)).length - 6 = j by omega, List.getElem?_eq_getElem hj]
theorem withC_length {ps : List (List UInt8)} {k : Nat} {p c : List UInt8} (h : ps[k]? = some p) (hl : c.length = p.length) : (withC ps k p c).length = (allF ps).length := by
  rw [← withC_same h]
  unfold withC
  simp only [List.length_append]
  omega
theorem ends_at {ps : List (List UInt8)} {k : Nat} {p : List UInt8} (h : ps[k]? = some p) : (allF (ps.take (k + 1))).length = (allF (ps.take k)).length + 6 + p.length := by
  rw [take_snoc h, allF_snoc, List.length_append, frameB_length]
  omega

end Go.Proofs.YthpoccjlhcpoiaaDoor
