/-
  Whether a configuration may be.
-/
import Derived.Test.YtomnhgcjdnhijaaCNamed
namespace Go.Proofs.Ytomnhgcjdnhijaa
open Go.RowKit
set_option maxRecDepth 100000

def allNamed (c : ConfP) : Bool := (List.range c.sk.toNat).all fun s => namedF (c.p s) c.wa.toNat
def checkF (c : ConfP) : Int :=
  if numbersF c = false then 1 else if c.D.map (·.k) ≠ keysF c.sk c.wa then 8 else if c.D.any outB then 3 else if allNamed c = false then 11 else if c.ca ≤ c.se then 5 else if c.bs < (needF c : Int) then 4 else 0
def CheckRel (w : World) (c : ConfP) (m v : Nat) (i : Value) (wr : World) : Prop := ∃ s : Nat, s ≤ m ∧ i = .int .i64 s ∧ (∀ x < s, namedF (c.p x) v = true) ∧ w.grownBy wr none
theorem numbers_two {c : ConfP} (h : numbersF c = true) : ∃ m v : Nat, c.sk = (m : Int) ∧ c.wa = (v : Int) ∧ 1 ≤ m ∧ m ≤ 4 ∧ 1 ≤ v ∧ v ≤ 4 := by
  unfold numbersF btw at h
  simp only [Bool.and_eq_true, decide_eq_true_eq] at h
  exact ⟨c.sk.toNat, c.wa.toNat, by omega, by omega, by omega, by omega, by omega, by omega⟩
end Go.Proofs.Ytomnhgcjdnhijaa
