/-
  All keys, by the program.
-/
import Derived.Test.YtomnhgcjdnhijaaCAll
namespace Go.Proofs.Ytomnhgcjdnhijaa
open Go.RowKit
set_option maxRecDepth 100000

def perK (q kd : Nat) : Nat := if kd ≤ 2 then q else 1
def kindK (q kd : Nat) (m : Nat) : List KeyP := (List.range m).map fun i => (UInt8.ofNat kd, UInt8.ofNat (i / perK q kd), UInt8.ofNat (i % perK q kd))
def allK (p q : Nat) : Nat → List KeyP
  | 0 => []
  | t + 1 => allK p q t ++ kindK q (t + 1) (p * perK q (t + 1))
theorem allK_keys {p q : Nat} (hp : 1 ≤ p ∧ p ≤ 4) (hq : 1 ≤ q ∧ q ≤ 4) : allK p q 4 = keysF (p : Int) (q : Int) := by
  have h1 : p = 1 ∨ p = 2 ∨ p = 3 ∨ p = 4 := by omega
  have h2 : q = 1 ∨ q = 2 ∨ q = 3 ∨ q = 4 := by omega
  rcases h1 with rfl | rfl | rfl | rfl <;> rcases h2 with rfl | rfl | rfl | rfl <;> decide +kernel
theorem keysF_none {s v : Int} (h : fineF s v = false) : keysF s v = [] := by
  have hg : ∀ k, goodK s v k = false := fun k => by
    unfold goodK
    rw [decide_eq_false_iff_not]
    rintro ⟨h1, h2, h3, h4, _⟩
    simp [fineF, btw] at h
    omega
  have : ∀ t, keysUpto s v t = [] := by
    intro t
    induction t with
    | zero => rfl
    | succ t ih => unfold keysUpto; rw [ih, hg]; rfl
  exact this 64
def KAllRel (w : World) (p q : Nat) (out i : Value) (wr : World) : Prop :=
  ∃ k : Nat, k ≤ 4 ∧ i = .int .u8 ((k : Int) + 1) ∧ OwnR wr w.heap.size 96 3 out ((allK p q k).map keyCells) ∧ w.grownBy wr none
def KInRel (w : World) (p q k M : Nat) (out i : Value) (wr : World) : Prop :=
  ∃ m : Nat, m ≤ M ∧ i = .int .i64 m ∧ OwnR wr w.heap.size 96 3 out ((allK p q k ++ kindK q (k + 1) m).map keyCells) ∧ w.grownBy wr none
theorem kindK_snoc (q kd m : Nat) : kindK q kd (m + 1) = kindK q kd m ++ [(UInt8.ofNat kd, UInt8.ofNat (m / perK q kd), UInt8.ofNat (m % perK q kd))] := by
  unfold kindK
  rw [List.range_succ, List.map_append]
  rfl
theorem kindK_len (q kd m : Nat) : (kindK q kd m).length = m := by unfold kindK; simp
theorem allK_len (p q : Nat) (hp : p ≤ 4) (hq : 1 ≤ q ∧ q ≤ 4) : ∀ t, (allK p q t).length ≤ 16 * t
  | 0 => Nat.le_refl _
  | t + 1 => by
    have h := allK_len p q hp hq t
    unfold allK
    rw [List.length_append, kindK_len]
    have h2 : perK q (t + 1) ≤ 4 := by unfold perK; split <;> omega
    have : p * perK q (t + 1) ≤ 16 := Nat.le_trans (Nat.mul_le_mul hp h2) (by decide)
    omega
end Go.Proofs.Ytomnhgcjdnhijaa
