/-
  The walks through the package wire: 'Bytes', and nil.
-/
import Derived.Test.YtfmcbnoldcfcbaaDoorWireMore
namespace Go.Proofs.YtfmcbnoldcfcbaaDoor
open Go.RowKit

theorem OwnB.lit (w : World) (l : List UInt8) (C : Array Value) (n : Nat) (hC : C = (l.map bval).toArray) (hn : n = l.length) (hm : n ≤ maxLen) : OwnB (w.alloc (.cells C 5)) w.heap.size (.slice (some ⟨w.heap.size, 0, none⟩) n n) l := by
  subst hC hn
  exact ⟨by simp, .inr ⟨w.heap.size, l.length, (l.map bval).toArray, rfl, Nat.le_refl _, heap_alloc_new w _, Nat.le_refl _, hm, by simp, List.take_of_length_le (by simp)⟩⟩

theorem numB2 (x n : Nat) : (numB x n).length = n := by simp [numB]
/-- what 'Bytes' does -/
def bytesW (most : Nat) (s : Int × List UInt8) (b : List UInt8) : Int × List UInt8 :=
  if 65535 < b.length then wrongW s 7 else rawW most s (numB b.length 2 ++ b)

end Go.Proofs.YtfmcbnoldcfcbaaDoor
