/-
  Boxes as rules of the walk: what a box holds, cell by cell, and what a store changes.
-/
import Derived.Test.YtkemocbifancfaaMemB
namespace Go.Proofs.Ytkemocbifancfaa
open Go.RowKit

/-- what a box holds, as one rule -/
theorem Box.look {w : World} {g : Nat} {T : TypeId} {cs : List Value} (hb : Box w g T cs) : ∀ i, w.cell? ⟨g, i, none⟩ = cs[i]? := by
  intro i
  rw [cell_of_row w g i _ T (0, 0) hb]; simp
theorem Box.open {w : World} {g : Nat} {T : TypeId} {cs : List Value} (hb : Box w g T cs) : ∀ i, w.frozen? ⟨g, i, none⟩ = false := fun i => hb.free i
/-- a store into a box leaves its other cells -/
theorem set_idx (w : World) (g i j : Nat) (v : Value) (h : i ≠ j) : (w.setCell ⟨g, i, none⟩ v).cell? ⟨g, j, none⟩ = w.cell? ⟨g, j, none⟩ :=
  World.cell?_setCell_other w _ _ _ (by intro e; cases e; exact h rfl)
/-- a store into a box leaves the other boxes -/
theorem set_far (w : World) (g k i j : Nat) (v : Value) (h : g ≠ k) : (w.setCell ⟨g, i, none⟩ v).cell? ⟨k, j, none⟩ = w.cell? ⟨k, j, none⟩ :=
  World.cell?_setCell_other w _ _ _ (by intro e; cases e; exact h rfl)
/-- a box laid at once, behind which one more object was made, in every later world -/
theorem look_new (w : World) (T : TypeId) : ∀ es u, (w.alloc (.cells (List.toArray es) T)).grownBy u none → ∀ i, u.cell? ⟨w.heap.size, i, none⟩ = es[i]? :=
  fun es _ hg => ((Box.new w T es _ rfl).grown hg).look
theorem look_new1 (w : World) (T : TypeId) : ∀ es q u, ((w.alloc (.cells (List.toArray es) T)).alloc q).grownBy u none → ∀ i, u.cell? ⟨w.heap.size, i, none⟩ = es[i]? :=
  fun es q _ hg => (((Box.new w T es _ rfl).alloc q).grown hg).look
theorem look_new2 (w : World) (T : TypeId) : ∀ es q u, ((w.alloc q).alloc (.cells (List.toArray es) T)).grownBy u none → ∀ i, u.cell? ⟨w.heap.size + 1, i, none⟩ = es[i]? :=
  fun es q _ hg => ((Box.new (w.alloc q) T es (w.heap.size + 1) (by simp)).grown hg).look

end Go.Proofs.Ytkemocbifancfaa
