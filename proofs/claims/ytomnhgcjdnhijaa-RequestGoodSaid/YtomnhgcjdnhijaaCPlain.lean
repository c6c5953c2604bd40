/-
  The plain configuration, by the program.
-/
import Derived.Test.YtomnhgcjdnhijaaCPlainC
namespace Go.Proofs.Ytomnhgcjdnhijaa
open Go.RowKit
set_option maxRecDepth 100000

def PRel (w : World) (a3 : Option Addr) (F : List KeyP) (z : List Value) (s v : Nat) (I H : Int) (B : Nat) (iv : Value) (wr : World) : Prop :=
  ∃ (j : Nat) (a : Option Addr) (k : Nat), j ≤ F.length ∧ iv = .int .i64 j ∧ Box wr w.heap.size 62 z ∧ Box wr (w.heap.size + 1) 62 (ConfCells s v a j k (fun _ _ => 0) 0) ∧ OwnR wr B 98 6 (.slice a j k) (((F.take j).map (mkD I H)).map declL) ∧ KeyList wr a3 F ∧ w.grownBy wr none ∧ B ≤ wr.heap.size
def QRel (w : World) (z : List Value) (s v : Nat) (a : Option Addr) (n k : Nat) (B : Nat) (LL : List (List Value)) (iv : Value) (wr : World) : Prop :=
  ∃ m : Nat, m ≤ s ∧ iv = .int .i64 m ∧ Box wr w.heap.size 62 z ∧ Box wr (w.heap.size + 1) 62 (ConfCells s v a n k (prioF m v 0) 0) ∧ OwnR wr B 98 6 (.slice a n k) LL ∧ w.grownBy wr none
def QRel3 (w : World) (z : List Value) (s v m : Nat) (a : Option Addr) (n k : Nat) (B : Nat) (LL : List (List Value)) (iv : Value) (wr : World) : Prop :=
  ∃ q : Nat, q ≤ v ∧ iv = .int .i64 q ∧ Box wr w.heap.size 62 z ∧ Box wr (w.heap.size + 1) 62 (ConfCells s v a n k (prioF m v q) 0) ∧ OwnR wr B 98 6 (.slice a n k) LL ∧ w.grownBy wr none
end Go.Proofs.Ytomnhgcjdnhijaa
