/-
  The walk through VolNew.
-/
import Derived.Test.YtkemocbifancfaaVolSame
import Derived.Test.YtkemocbifancfaaVolLaws
namespace Go.Proofs.Ytkemocbifancfaa
open Go.RowKit
set_option maxRecDepth 100000

/-- a variable of the type Vol that was laid and stored -/
theorem vol_var (w : World) (a : Option Addr) (n c sz : Nat) :
    Box (w.alloc (.cells #[.slice a n c, .int .i64 sz] 48)) w.heap.size 48 [.slice a n c, .int .i64 sz] ∧
    w.grownBy (w.alloc (.cells #[.slice a n c, .int .i64 sz] 48)) none :=
  ⟨Box.new w 48 [.slice a n c, .int .i64 sz] w.heap.size rfl, World.grownBy_alloc w _ none⟩

theorem RefVol.grown {w w' : World} {X : Nat → Prop} {bs : List (List UInt8)} {sz : Nat} {v : Value} (h : RefVol w X bs sz v) (hg : w.grownBy w' none) : RefVol w' X bs sz v := by
  obtain ⟨a, n, c, e, h1, h2, h3⟩ := h
  exact ⟨a, n, c, e, h1, h2.kept (Kept.of_grown hg), h3⟩
theorem RefVol.open {w : World} {X : Nat → Prop} {bs : List (List UInt8)} {sz : Nat} {v : Value} (h : RefVol w X bs sz v) : ∃ a c, v = .agg #[.slice a bs.length c, .int .i64 sz] := by
  obtain ⟨a, n, c, e, h1, h2, h3⟩ := h
  exact ⟨a, c, by rw [e, h1]⟩

theorem blk_zero {sz i n : Nat} (h : i * sz + sz ≤ n) : blk sz i (List.replicate n 0) = List.replicate sz (0 : UInt8) := by
  unfold blk
  rw [List.drop_replicate, List.take_replicate]
  congr 1
  omega

def noXs : Nat → Prop := fun _ => False

end Go.Proofs.Ytkemocbifancfaa
