/-
  Segments of bytes: plain arithmetic.
-/
import Derived.Test.YtkemocbifancfaaTBase
namespace Go.Proofs.Ytkemocbifancfaa

theorem nSeg_eq {s n q : Nat} (hs : 1 ≤ s) (h1 : n ≤ q * s) (h2 : q * s < n + s) : nSeg s n = q := by
  unfold nSeg
  apply Nat.div_eq_of_lt_le
  · rw [Nat.mul_comm] at h1 h2 ⊢
    generalize s * q = x at *
    omega
  · rw [Nat.succ_mul]
    generalize q * s = x at *
    omega
theorem div_parts (s m : Nat) : m = m / s * s + m % s := by
  have := Nat.div_add_mod m s
  rw [Nat.mul_comm] at this
  exact this.symm
theorem nSeg_full {s m : Nat} (hs : 1 ≤ s) (h : m % s = 0) : nSeg s m = m / s := by
  have h1 := div_parts s m
  refine nSeg_eq hs ?_ ?_ <;> generalize m / s * s = x at * <;> omega
theorem nSeg_part {s m : Nat} (hs : 1 ≤ s) (h : m % s ≠ 0) : nSeg s m = m / s + 1 := by
  have h1 := div_parts s m
  have h2 := Nat.mod_lt m (show s > 0 by omega)
  refine nSeg_eq hs ?_ ?_ <;> rw [Nat.add_mul, Nat.one_mul] <;> generalize m / s * s = x at * <;> omega
theorem nSeg_more {s m x : Nat} (hs : 1 ≤ s) (h1 : 1 ≤ x) (h2 : x ≤ s - m % s) : nSeg s (m + x) = m / s + 1 := by
  have h3 := div_parts s m
  have h4 := Nat.mod_lt m (show s > 0 by omega)
  refine nSeg_eq hs ?_ ?_ <;> rw [Nat.add_mul, Nat.one_mul] <;> generalize m / s * s = y at * <;> omega
theorem segOf_keep {s : Nat} {l X : List UInt8} {j : Nat} (h : j * s + s ≤ l.length) : segOf s (l ++ X) j = segOf s l j := by
  unfold segOf
  rw [List.drop_append_of_le_length (by omega), List.take_append_of_le_length (by rw [List.length_drop]; omega)]
theorem segOf_last {s : Nat} {l X : List UInt8} {i : Nat} (h1 : i * s ≤ l.length) (h2 : l.length - i * s + X.length ≤ s) : segOf s (l ++ X) i = segOf s l i ++ X := by
  unfold segOf
  rw [List.drop_append_of_le_length h1, List.take_of_length_le (by rw [List.length_append, List.length_drop]; exact h2), List.take_of_length_le (by rw [List.length_drop]; omega)]
theorem segOf_end {s : Nat} {l : List UInt8} {i : Nat} (h1 : l.length ≤ i * s) : segOf s l i = [] := by
  unfold segOf
  rw [List.drop_of_length_le h1, List.take_nil]
theorem segOf_len {s : Nat} {l : List UInt8} {i : Nat} (h1 : i * s ≤ l.length) (h2 : l.length ≤ i * s + s) : (segOf s l i).length = l.length - i * s := by
  unfold segOf
  rw [List.length_take, List.length_drop]
  omega
theorem seg_next (f s m : Nat) (hs : 1 ≤ s) : (f * s + m) / s = f + m / s := by
  rw [Nat.add_comm, Nat.add_mul_div_right _ _ (by omega), Nat.add_comm]
theorem seg_room (f s m : Nat) (hs : 1 ≤ s) : ((f + m / s : Nat) + 1) * s = f * s + m + (s - m % s) := by
  have h1 := div_parts s m
  have h2 := Nat.mod_lt m (show s > 0 by omega)
  rw [Nat.add_mul, Nat.add_mul, Nat.one_mul]
  generalize m / s * s = x at *
  generalize f * s = y at *
  omega

end Go.Proofs.Ytkemocbifancfaa
