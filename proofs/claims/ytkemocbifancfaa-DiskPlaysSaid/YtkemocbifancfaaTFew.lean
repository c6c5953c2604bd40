/-
  Whether acts are few; what an act leaves at its numbers.
-/
import Derived.Test.YtkemocbifancfaaTDo
namespace Go.Proofs.Ytkemocbifancfaa
open Go.RowKit
set_option maxRecDepth 100000

def FewRel (w : World) (len : Nat) (A : Nat → TActV) (i : Value) (wr : World) : Prop := ∃ k : Nat, k ≤ len ∧ i = .int .i64 (k : Int) ∧ (∀ j, j < k → (A j).len ≤ 600) ∧ w.grownBy wr none
def FewPost (w : World) (len : Nat) (A : Nat → TActV) (r : Ending) (w' : World) : Prop := ∃ f, r = .returned (.bool f) ∧ w.grownBy w' none ∧ (f = true → len ≤ 40 ∧ ∀ j, j < len → (A j).len ≤ 600)
theorem act_at (s f : Nat) (l b : List UInt8) (k n : Int) : ∃ d, actF s f l k n * s = f * s + d ∧ ∀ j, j < (actL s f l k n b).length → d + j < l.length → (actL s f l k n b)[j]? = l[d + j]? := by
  unfold actF actL
  split
  · exact ⟨dropN s f l.length n * s, by rw [Nat.add_mul], fun j _ _ => by rw [List.getElem?_drop]⟩
  · split
    · refine ⟨0, rfl, fun j hj _ => ?_⟩
      rw [Nat.zero_add]
      unfold cutT at hj ⊢
      split
      · rfl
      · rename_i h
        rw [if_neg h, List.length_take] at hj
        rw [List.getElem?_take, if_pos (by omega)]
    · exact ⟨0, rfl, fun j _ h => by rw [Nat.zero_add] at h ⊢; rw [List.getElem?_append_left h]⟩
theorem TActAt.grown {w w' : World} {a : Option Addr} {i : Nat} {A : TActV} (h : TActAt w a i A) (hg : w.grownBy w' none) : TActAt w' a i A := by
  obtain ⟨b, o, e, c0, c1, c2, hok⟩ := h
  exact ⟨b, o, e, grown_cell hg c0, grown_cell hg c1, grown_cell hg c2, hok.b.grown hg, hok.k, hok.n⟩
theorem TActAt.ok {w : World} {a : Option Addr} {i : Nat} {A : TActV} (h : TActAt w a i A) : A.ok w := by
  obtain ⟨b, o, e, c0, c1, c2, hok⟩ := h
  exact hok
theorem TActV.ok.grown {w w' : World} {A : TActV} (h : A.ok w) (hg : w.grownBy w' none) : A.ok w' := ⟨h.b.grown hg, h.k, h.n⟩
/-- what was there ahead of the call lies in no block that the call made -/
theorem RX.new {w w' : World} {X : Nat → Prop} {a : Option Addr} {l : List UInt8} (h : RB w a l) (hg : w.grownBy w' none) (hX : ∀ k, X k → w.heap.size ≤ k) : RX w' X a l :=
  (RX.of_rb h (fun ad e hne hx => by
    have h1 := hX _ hx
    obtain ⟨b, o, e2, hc⟩ := h 0 (List.length_pos_iff.2 hne)
    rw [e] at e2
    cases e2
    have := World.block_lt_of_cell? w _ hc
    simp only at this h1
    omega)).kept (Kept.of_grown hg)

end Go.Proofs.Ytkemocbifancfaa
