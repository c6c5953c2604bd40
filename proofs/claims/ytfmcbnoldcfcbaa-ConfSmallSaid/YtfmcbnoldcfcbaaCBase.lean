/-
  Small facts on worlds and answers; numbers of a configuration.
-/
import Derived.Test.YtfmcbnoldcfcbaaElems
import Derived.Deep.Slices
import Derived.Lib.SmallJoins
namespace Go.Proofs.Ytfmcbnoldcfcbaa
open Go.RowKit Go.ChangeShapes Go.WideShapes Go.ChangeAt Go.Deep
set_option maxRecDepth 100000

theorem ret_bool {a b : Bool} (h : a = b) : Ending.returned (.bool a) = .returned (.bool b) := by rw [h]
theorem ret_i64 {a b : Int} (h : a = b) : Ending.returned (.int .i64 a) = .returned (.int .i64 b) := by rw [h]
theorem growA {w : World} : ∀ u o, w.grownBy u none → w.grownBy (u.alloc o) none := fun _ _ h => grown_trans h (World.grownBy_alloc _ _ none)
theorem growT {a b c : World} (k : b.grownBy c none) (h : a.grownBy b none) : a.grownBy c none := grown_trans h k
theorem keepA' {a b : World} {o : Obj} (h : a.grownBy b none) : a.grownBy (b.alloc o) none := growA _ _ h
theorem cell_later {w : World} {a : Addr} {v : Value} (h : w.cell? a = some v) : ∀ w', w.grownBy w' none → w'.cell? a = some v := fun _ hg => grown_cell hg h
theorem look_later {w : World} {g : Nat} {T : TypeId} {cs : List Value} (hb : Box w g T cs) : ∀ w', w.grownBy w' none → ∀ i, w'.cell? ⟨g, i, none⟩ = cs[i]? := fun _ hg => (hb.grown hg).look

/-- a key: its kind, its article, its warehouse -/
abbrev KeyP := UInt8 × UInt8 × UInt8
/-- what is said of a key: bounds, and what there is at first -/
structure DeclP where
  k : KeyP
  lo : Int
  ini : Int
  hi : Int
structure ConfP where
  sk : Int
  wa : Int
  D : List DeclP
  p : Nat → Nat → UInt8
  sg : Int
  od : Int
  rt : Int
  se : Int
  ca : Int
  bl : Int
  bs : Int

def btw (n lo hi : Int) : Bool := decide (lo ≤ n) && decide (n ≤ hi)
def fineF (s w : Int) : Bool := btw s 1 4 && btw w 1 4
def numbersF (c : ConfP) : Bool :=
  btw c.sk 1 4 && btw c.wa 1 4 && btw c.sg 1 8 && btw c.od 1 32 && btw c.rt 0 4 && btw c.se 64 4096 && btw c.ca 1 1048576 && btw c.bl 64 4096 && btw c.bs 1 1024
def mostF (s o : Int) : Nat := 12 + 343 * clampN s 8 + 318 * clampN o 32
def countF (s w : Int) : Nat := if fineF s w then 2 * s.toNat * w.toNat + 2 * s.toNat else 0
def piecesF (n : Nat) (z : Int) : Nat := if z < 1 then 0 else (n + z.toNat - 1) / z.toNat
def headsF (c : ConfP) : Nat := piecesF (countF c.sk c.wa) (c.bl.toNat / 16 : Nat)
def tablesF (c : ConfP) : Nat := piecesF (mostF c.sg c.od) c.bl
def areaF (c : ConfP) : Nat := headsF c + tablesF c
def needF (c : ConfP) : Nat := 2 * areaF c + 2
theorem mostF_le (s o : Int) : 12 ≤ mostF s o ∧ mostF s o ≤ 12932 := by unfold mostF clampN; omega

theorem conf_between (n lo hi : Int) (w : World) : Calls Try.prog 66 #[.int .i64 n, .int .i64 lo, .int .i64 hi] w fun r w' => r = .returned (.bool (btw n lo hi)) ∧ w' = w := by
  by_cases h1 : lo ≤ n
  · by_cases h2 : n ≤ hi
    all_goals (
      go_enter Try.func66, Try.ntmps66
      go_wp2_with fail
      go_ret
      exact ⟨ret_bool (by simp [btw, h1, h2]), rfl⟩)
  · go_enter Try.func66, Try.ntmps66
    go_wp2_with fail
    go_ret
    exact ⟨ret_bool (by simp [btw]; omega), rfl⟩
theorem key_fine (s v : Int) (w : World) : Calls Try.prog 67 #[.int .i64 s, .int .i64 v] w fun r w' => r = .returned (.bool (fineF s v)) ∧ w' = w := by
  have hp : (¬ 1 ≤ s ∨ (1 ≤ s ∧ ¬ s ≤ 4) ∨ (1 ≤ s ∧ s ≤ 4 ∧ ¬ 1 ≤ v) ∨ (1 ≤ s ∧ s ≤ 4 ∧ 1 ≤ v ∧ ¬ v ≤ 4)) ∨ (1 ≤ s ∧ s ≤ 4 ∧ 1 ≤ v ∧ v ≤ 4) := by omega
  have hf : fineF s v = decide (1 ≤ s ∧ s ≤ 4 ∧ 1 ≤ v ∧ v ≤ 4) := by simp [fineF, btw, Bool.and_assoc]
  rw [hf]
  have HF := Lib.hid hf
  clear hf
  rcases hp with (h | ⟨h, h1⟩ | ⟨h, h1, h2⟩ | ⟨h, h1, h2, h3⟩) | ⟨h, h1, h2, h3⟩
  · go_enter Try.func67, Try.ntmps67
    go_wp2_with fail
    go_ret
    exact ⟨ret_bool (by simp; omega), rfl⟩
  · go_enter Try.func67, Try.ntmps67
    go_wp2_with fail
    go_ret
    exact ⟨ret_bool (by simp; omega), rfl⟩
  · go_enter Try.func67, Try.ntmps67
    go_wp2_with fail
    go_ret
    exact ⟨ret_bool (by simp; omega), rfl⟩
  · go_enter Try.func67, Try.ntmps67
    go_wp2_with fail
    go_ret
    exact ⟨ret_bool (by simp; omega), rfl⟩
  · go_enter Try.func67, Try.ntmps67
    go_wp2_with fail
    go_ret
    exact ⟨ret_bool (by simp; omega), rfl⟩
theorem key_both (k : UInt8) (w : World) : Calls Try.prog 68 #[.int .u8 (k.toNat : Int)] w fun r w' => r = .returned (.bool (decide (k.toNat = 1 ∨ k.toNat = 2))) ∧ w' = w := by
  have hp : k.toNat = 1 ∨ (k.toNat ≠ 1 ∧ k.toNat = 2) ∨ (k.toNat ≠ 1 ∧ k.toNat ≠ 2) := by omega
  generalize k.toNat = n at *
  rcases hp with rfl | ⟨h, rfl⟩ | ⟨h, h2⟩
  · go_enter Try.func68, Try.ntmps68
    go_wp2_with fail
    go_ret
    exact ⟨ret_bool rfl, rfl⟩
  · go_enter Try.func68, Try.ntmps68
    go_wp2_with fail
    go_ret
    exact ⟨ret_bool rfl, rfl⟩
  · have h1 : ((n : Int) == 1) = false := by rw [beq_eq_false_iff_ne]; omega
    have h3 : ((n : Int) == 2) = false := by rw [beq_eq_false_iff_ne]; omega
    go_enter Try.func68, Try.ntmps68
    go_wp2_with fail
    go_ret
    exact ⟨ret_bool (by simp [h, h2]), rfl⟩
theorem conf_most (s o : Int) (w : World) : Calls Try.prog 35 #[.int .i64 s, .int .i64 o] w fun r w' => r = .returned (.int .i64 (mostF s o : Int)) ∧ w' = w := by
  obtain ⟨p, hp⟩ : ∃ p : Nat, p = s.toNat := ⟨_, rfl⟩
  obtain ⟨q, hq⟩ : ∃ q : Nat, q = o.toNat := ⟨_, rfl⟩
  have m1 := max_nat s p hp
  have m2 := min_nat p 8 (clampN s 8) (by rw [hp]; rfl) (by decide)
  have m3 := max_nat o q hq
  have m4 := min_nat q 32 (clampN o 32) (by rw [hq]; rfl) (by decide)
  have h : mostF s o = 12 + 343 * clampN s 8 + 318 * clampN o 32 := rfl
  have b1 : clampN s 8 ≤ 8 := by unfold clampN; omega
  have b2 : clampN o 32 ≤ 32 := by unfold clampN; omega
  rw [h]
  generalize clampN s 8 = x at *
  generalize clampN o 32 = y at *
  clear h hp hq
  go_enter Try.func35, Try.ntmps35
  go_wp2_with fail
  go_ret
  exact ⟨ret_i64 (by go_num), rfl⟩
theorem conf_pieces (n : Nat) (z : Int) (w : World) (hn : 1 ≤ n ∨ z < 1 ∨ 1 ≤ z) (hb : (n : Int) + z ≤ 9223372036854775807) : Calls Try.prog 60 #[.int .i64 n, .int .i64 z] w fun r w' => r = .returned (.int .i64 (piecesF n z : Int)) ∧ w' = w := by
  by_cases hz : z < 1
  · rw [show piecesF n z = 0 from if_pos hz]
    go_enter Try.func60, Try.ntmps60
    go_wp2_with fail
    go_ret
    exact ⟨rfl, rfl⟩
  · obtain ⟨m, rfl⟩ : ∃ m : Nat, z = (m : Int) := ⟨z.toNat, by omega⟩
    have hm : 1 ≤ m := by omega
    have hp : piecesF n (m : Int) = (n + m - 1) / m := by unfold piecesF; rw [if_neg hz]; simp
    have hq : (((n + m - 1 : Nat)) : Int) = (n : Int) + (m : Int) - 1 := by omega
    have hne : ((m : Int) == 0) = false := by rw [beq_eq_false_iff_ne]; omega
    have hd : ((n : Int) + (m : Int) - 1).tdiv (m : Int) = (((n + m - 1) / m : Nat) : Int) := by rw [← hq]; rfl
    have hlim : (n + m - 1) / m ≤ n + m := Nat.le_trans (Nat.div_le_self _ _) (by omega)
    rw [hp]
    have HWR := Lib.hid (show wrap64 (((n + m - 1 : Nat) : Int) / (m : Int)) = (((n + m - 1) / m : Nat) : Int) by
      rw [show (((n + m - 1 : Nat) : Int) / (m : Int)) = (((n + m - 1) / m : Nat) : Int) from rfl]
      generalize (n + m - 1) / m = z at *
      unfold wrap64
      omega)
    clear hlim
    clear hq hp hn
    go_enter Try.func60, Try.ntmps60
    go_wp2_with fail
    go_ret
    exact ⟨ret_i64 HWR.out, rfl⟩
theorem key_count (s v : Int) (w : World) : Calls Try.prog 61 #[.int .i64 s, .int .i64 v] w fun r w' => r = .returned (.int .i64 (countF s v : Int)) ∧ w' = w := by
  obtain ⟨t, ht⟩ : ∃ t, fineF s v = t := ⟨_, rfl⟩
  have hc : countF s v = if t then 2 * s.toNat * v.toNat + 2 * s.toNat else 0 := by unfold countF; rw [ht]
  have HF := Lib.hid (show Calls Try.prog 67 #[.int .i64 s, .int .i64 v] w fun r w' => r = .returned (.bool t) ∧ w' = w by rw [← ht]; exact key_fine s v w)
  rw [hc]
  cases t
  · clear hc ht
    go_enter Try.func61, Try.ntmps61
    go_wp2_with fail
    refine HF.out.mono ?_
    rintro r w1 ⟨rfl, rfl⟩
    go_wp2_with fail
    go_ret
    exact ⟨rfl, rfl⟩
  · obtain ⟨p, rfl⟩ : ∃ p : Nat, s = (p : Int) := ⟨s.toNat, by simp [fineF, btw] at ht; omega⟩
    obtain ⟨q, rfl⟩ : ∃ q : Nat, v = (q : Int) := ⟨v.toNat, by simp [fineF, btw] at ht; omega⟩
    have hp : p ≤ 4 ∧ q ≤ 4 := by simp [fineF, btw] at ht; omega
    obtain ⟨hp, hq⟩ := hp
    have hpq : 2 * p * q ≤ 32 := Nat.le_trans (Nat.mul_le_mul (Nat.mul_le_mul_left 2 hp) hq) (by decide)
    obtain ⟨z, hz⟩ : ∃ z : Nat, 2 * p * q = z := ⟨_, rfl⟩
    have hz2 : 2 * (p : Int) * (q : Int) = (z : Int) := by rw [← hz]; push_cast; rfl
    have HZ := Lib.hid hz
    rw [hz] at hpq
    clear hc ht hz
    go_enter Try.func61, Try.ntmps61
    go_wp2_with fail
    refine HF.out.mono ?_
    rintro r w1 ⟨rfl, rfl⟩
    go_wp2_with fail
    go_ret
    refine ⟨ret_i64 ?_, rfl⟩
    simp

end Go.Proofs.Ytfmcbnoldcfcbaa
