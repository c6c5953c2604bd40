/-
  Boxes as rules of the walk: what a box holds, cell by cell, and what a store changes.
-/
import Derived.Test.YtfmcbnoldcfcbaaDoorMemB
namespace Go.Proofs.YtfmcbnoldcfcbaaDoor
open Go.RowKit

/-- what a box holds, as one rule -/
theorem Box.look {w : World} {g : Nat} {T : TypeId} {cs : List Value} (hb : Box w g T cs) : ∀ i, w.cell? ⟨g, i, none⟩ = cs[i]? := by
  intro i
  rw [cell_of_row w g i _ T (0, 0) hb]; simp
theorem Box.open {w : World} {g : Nat} {T : TypeId} {cs : List Value} (hb : Box w g T cs) : ∀ i, w.frozen? ⟨g, i, none⟩ = false := fun i => hb.free i
/-- a store into a box leaves its other cells -/
theorem set_idx (w : World) (g i j : Nat) (v : Value) (h : i ≠ j) : (w.setCell ⟨g, i, none⟩ v).cell? ⟨g, j, none⟩ = w.cell? ⟨g, j, none⟩ :=
  World.cell?_setCell_other w _ _ _ (by intro e; cases e; exact h rfl)
/-- a store into a box leaves the other boxes -/
theorem set_far (w : World) (g k i j : Nat) (v : Value) (h : g ≠ k) : (w.setCell ⟨g, i, none⟩ v).cell? ⟨k, j, none⟩ = w.cell? ⟨k, j, none⟩ :=
  World.cell?_setCell_other w _ _ _ (by intro e; cases e; exact h rfl)

end Go.Proofs.YtfmcbnoldcfcbaaDoor
