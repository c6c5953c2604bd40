/-
  Plain Lean: what is written as a number is read as that number, and the other way round.
-/
import Derived.Test.YtomnhgcjdnhijaaWireRMore
namespace Go.Proofs.Ytomnhgcjdnhijaa
open Go.RowKit

theorem numB_length (x n : Nat) : (numB x n).length = n := by simp [numB]
theorem numB_succ (x n : Nat) : numB x (n + 1) = UInt8.ofNat x :: numB (x / 256) n := by
  unfold numB
  rw [List.range_succ_eq_map, List.map_cons, List.map_map]
  congr 1
  · simp
  · refine List.map_congr_left fun i _ => ?_
    simp only [Function.comp_apply, Nat.succ_eq_add_one]
    rw [Nat.div_div_eq_div_mul, show 256 * 2 ^ (8 * i) = 2 ^ (8 * (i + 1)) by rw [Nat.mul_add, Nat.pow_add]; omega]
theorem valN_numB (n : Nat) : ∀ x : Nat, valN (numB x n) = x % 2 ^ (8 * n) := by
  induction n with
  | zero => intro x; simp [numB, valN, Nat.mod_one]
  | succ n ih =>
    intro x
    rw [numB_succ, valN, ih, Nat.mul_add, Nat.pow_add, Nat.mul_comm (2 ^ (8 * n)), show (2 : Nat) ^ (8 * 1) = 256 from rfl, Nat.mod_mul]
    simp
theorem numB_valN (l : List UInt8) : numB (valN l) l.length = l := by
  induction l with
  | nil => rfl
  | cons c l ih =>
    have := c.toNat_lt
    rw [List.length_cons, numB_succ, valN, show (c.toNat + 256 * valN l) / 256 = valN l by omega, ih]
    congr 1
    apply UInt8.toNat_inj.1
    simp only [UInt8.toNat_ofNat']
    omega

theorem takeR_app (b rest : List UInt8) : takeR 0 (b ++ rest) b.length = (b, 0, rest) := by
  unfold takeR
  rw [if_neg (by simp), if_neg (by simp), List.take_left, List.drop_left]
theorem numR_app (x n : Nat) (h1 : 1 ≤ n) (h8 : n ≤ 8) (hx : x < 2 ^ (8 * n)) (rest : List UInt8) : numR 0 (numB x n ++ rest) n = (x, 0, rest) := by
  have ht := takeR_app (numB x n) rest
  rw [numB_length] at ht
  unfold numR
  rw [if_neg (by omega)]
  simp only [Int.toNat_natCast]
  rw [ht]
  simp only
  rw [valN_numB, Nat.mod_eq_of_lt hx]
theorem bytesR_app (b rest : List UInt8) (hb : b.length ≤ 65535) (most : Int) (hm : (b.length : Int) ≤ most) : bytesR 0 (numB b.length 2 ++ b ++ rest) most = (b, 0, rest) := by
  unfold bytesR
  rw [List.append_assoc, show numR 0 (numB b.length 2 ++ (b ++ rest)) 2 = (b.length, 0, b ++ rest) from numR_app b.length 2 (by omega) (by omega) (by omega) (b ++ rest)]
  simp only
  rw [if_neg (by simp), if_neg (by omega), takeR_app]
theorem boolR_app (t : Bool) (rest : List UInt8) : boolR 0 ((if t then 1 else 0) :: rest) = (t, 0, rest) := by
  have h : ∀ c : UInt8, numR 0 (c :: rest) 1 = (c.toNat, 0, rest) := by
    intro c
    unfold numR takeR
    simp [valN]
  unfold boolR
  rw [h]
  cases t <;> simp

/-- what is wrong stays -/
theorem takeR_bad {e : Int} (h : e ≠ 0) (l : List UInt8) (n : Nat) : takeR e l n = ([], e, l) := by unfold takeR; rw [if_pos h]
theorem numR_bad {e : Int} (h : e ≠ 0) (l : List UInt8) (n : Int) : numR e l n = (0, e, l) := by
  unfold numR
  rw [takeR_bad h]
  simp [h, valN]
theorem boolR_bad {e : Int} (h : e ≠ 0) (l : List UInt8) : boolR e l = (false, e, l) := by
  unfold boolR
  rw [numR_bad h]
  rfl
theorem bytesR_bad {e : Int} (h : e ≠ 0) (l : List UInt8) (most : Int) : bytesR e l most = ([], e, l) := by
  unfold bytesR
  rw [numR_bad h]
  simp [h]
theorem takeR_ok {l b r : List UInt8} {n : Nat} (h : takeR 0 l n = (b, 0, r)) : l = b ++ r ∧ b.length = n := by
  unfold takeR at h
  rw [if_neg (by simp)] at h
  split at h
  · simp at h
  · simp only [Prod.mk.injEq] at h
    obtain ⟨rfl, _, rfl⟩ := h
    exact ⟨(List.take_append_drop n l).symm, by rw [List.length_take]; omega⟩
theorem numR_ok {l r : List UInt8} {x : Nat} {n : Int} (h : numR 0 l n = (x, 0, r)) : 1 ≤ n ∧ n ≤ 8 ∧ x < 2 ^ (8 * n.toNat) ∧ l = numB x n.toNat ++ r := by
  unfold numR at h
  split at h
  · simp at h
  · rename_i hn
    obtain ⟨⟨b, e, r'⟩, ht⟩ : ∃ t, takeR 0 l n.toNat = t := ⟨_, rfl⟩
    rw [ht] at h
    simp only [Prod.mk.injEq] at h
    obtain ⟨rfl, rfl, rfl⟩ := h
    obtain ⟨rfl, hl⟩ := takeR_ok ht
    refine ⟨by omega, by omega, by rw [← hl]; exact valN_lt b, ?_⟩
    rw [← hl, numB_valN]
theorem boolR_ok {l r : List UInt8} {t : Bool} (h : boolR 0 l = (t, 0, r)) : l = (if t then 1 else 0) :: r := by
  unfold boolR at h
  obtain ⟨⟨x, e, r'⟩, ht⟩ : ∃ t, numR 0 l 1 = t := ⟨_, rfl⟩
  rw [ht] at h
  simp only [Prod.mk.injEq] at h
  obtain ⟨h1, h2, rfl⟩ := h
  by_cases hx : 1 < x
  · rw [if_pos hx] at h2
    split at h2
    · exact absurd h2 (by decide)
    · contradiction
  · rw [if_neg hx] at h2
    subst h2
    obtain ⟨_, _, _, rfl⟩ := numR_ok ht
    subst h1
    rcases (show x = 0 ∨ x = 1 by omega) with rfl | rfl <;> simp [numB]
theorem bytesR_ok {l b r : List UInt8} {most : Int} (h : bytesR 0 l most = (b, 0, r)) : b.length ≤ 65535 ∧ (b.length : Int) ≤ most ∧ l = numB b.length 2 ++ b ++ r := by
  unfold bytesR at h
  obtain ⟨⟨x, e, r'⟩, ht⟩ : ∃ t, numR 0 l 2 = t := ⟨_, rfl⟩
  rw [ht] at h
  simp only at h
  split at h
  · rename_i he
    simp only [Prod.mk.injEq] at h
    exact absurd h.2.1 he
  · rename_i he
    split at h
    · simp at h
    · rename_i hm
      obtain ⟨rfl, hl⟩ := takeR_ok h
      have he0 : e = 0 := by simpa using he
      subst he0
      obtain ⟨_, _, hx, rfl⟩ := numR_ok ht
      rw [hl]
      exact ⟨by have : x < 65536 := hx; omega, by omega, by rw [List.append_assoc]; rfl⟩

end Go.Proofs.Ytomnhgcjdnhijaa
