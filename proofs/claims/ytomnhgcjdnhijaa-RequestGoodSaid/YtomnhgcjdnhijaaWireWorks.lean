/-
  The chapter's examples, and WireNil.
-/
import Derived.Test.YtomnhgcjdnhijaaWirePure
namespace Go.Proofs.Ytomnhgcjdnhijaa
open Go.RowKit

/-- what a writer of the call's own writes, is new -/
theorem Wrote.none {w0 w w' : World} {g : Nat} {e : Int} {v v' : Value} {l : List UInt8} {most : Nat} (k : Wrote w g v w' v') (h : w0.grownBy w none) (hg : w0.heap.size ≤ g) (W : WriterAt w g e v l most) : w0.grownBy w' none :=
  ⟨k.kept.os.trans h.os, k.kept.tape.trans h.tape, k.kept.output.trans h.output, Nat.le_trans h.size k.kept.size, fun i hi _ => (k.kept.block i (Nat.lt_of_lt_of_le hi h.size) (by
    rintro (e | e)
    · omega
    · have := (W.row.lt i e).1; omega)).trans (h.block i hi (by simp))⟩

end Go.Proofs.Ytomnhgcjdnhijaa
