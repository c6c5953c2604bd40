/-
  What a configuration says, held against keys and bounds, by functions.
-/
import Derived.Test.YtomnhgcjdnhijaaCRDecl
namespace Go.Proofs.Ytomnhgcjdnhijaa
open Go.RowKit
set_option maxRecDepth 100000

def outB (d : DeclP) : Bool := decide (d.ini < d.lo) || decide (d.hi < d.ini)
def FirstOut (L : List DeclP) (z : Int) : Prop := (z = -1 ∧ ∀ d ∈ L, outB d = false) ∨ (0 ≤ z ∧ ∃ d ∈ L, outB d = true)
def OutRel (w : World) (L : List DeclP) (n : Nat) (i : Value) (wr : World) : Prop := ∃ j : Nat, j ≤ n ∧ i = .int .i64 j ∧ (∀ d ∈ L.take j, outB d = false) ∧ w.grownBy wr none
def EqRel (w : World) (L : List DeclP) (M : List KeyP) (n : Nat) (i : Value) (wr : World) : Prop := ∃ j : Nat, j ≤ n ∧ i = .int .i64 j ∧ (L.map (·.k)).take j = M.take j ∧ w.grownBy wr none
end Go.Proofs.Ytomnhgcjdnhijaa
