/-
  The document's 'Decode' of masters: what it says, in its own numbers (plain).
-/
import Derived.Test.YtfmcbnoldcfcbaaDoorMasterRef
import Derived.Test.YtfmcbnoldcfcbaaDoorMasterPlain
namespace Go.Proofs.YtfmcbnoldcfcbaaDoor
open Go.RowKit

theorem numM_long {l : List UInt8} (h : 8 ≤ l.length) : numM l = valN (l.take 8) := by
  unfold numM getNum
  rw [if_neg (by omega), if_neg (by omega)]
  rfl
theorem numM_eq {a b : List UInt8} (ha : 8 ≤ a.length) (hb : 8 ≤ b.length) : numM a = numM b ↔ a.take 8 = b.take 8 := by
  rw [numM_long ha, numM_long hb]
  constructor
  · intro h
    have h1 := numB_valN (a.take 8)
    have h2 := numB_valN (b.take 8)
    rw [List.length_take, Nat.min_eq_left ha] at h1
    rw [List.length_take, Nat.min_eq_left hb] at h2
    rw [← h1, ← h2, h]
  · intro h; rw [h]
/-- what the document's 'Decode' says, in its own numbers -/
theorem decM_num {l : List UInt8} (h : 45 ≤ l.length) : decM l = if numM l ≠ numM (l.drop 37) then (zeroM, 8) else
    if sumN (l.take 33) ≠ valN ((l.drop 33).take 4) then (zeroM, 9) else if GoodM (parseM l) then (parseM l, 0) else (zeroM, 8) := by
  unfold decM
  rw [if_neg (by omega)]
  have e := numM_eq (a := l) (b := l.drop 37) (by omega) (by rw [List.length_drop]; omega)
  by_cases hh : l.take 8 = (l.drop 37).take 8
  · rw [if_neg (show ¬ (l.take 8 ≠ (l.drop 37).take 8) from fun h => h hh), if_neg (show ¬ (numM l ≠ numM (l.drop 37)) from fun h => h (e.2 hh))]
  · rw [if_pos hh, if_pos (fun h => hh (e.1 h))]
theorem parseM_num {l : List UInt8} (h : 45 ≤ l.length) : parseM l = ⟨numM l, l.getD 8 0, wrap64 (numM (l.drop 9) : Nat), wrap64 (numM (l.drop 17) : Nat), wrap64 (numM (l.drop 25) : Nat)⟩ := by
  unfold parseM
  rw [numM_long (by omega), numM_long (by rw [List.length_drop]; omega), numM_long (by rw [List.length_drop]; omega), numM_long (by rw [List.length_drop]; omega)]
  have e : (l.drop 8).take 1 = [l.getD 8 0] := by
    rw [List.drop_eq_getElem_cons (show 8 < l.length by omega), List.take_succ_cons, List.take_zero, List.getD_eq_getElem?_getD, List.getElem?_eq_getElem (show 8 < l.length by omega)]
    rfl
  rw [e]
  simp [valN]

end Go.Proofs.YtfmcbnoldcfcbaaDoor
