/-
  Small facts on worlds and answers; numbers of a configuration.
-/
import Derived.Test.YtomnhgcjdnhijaaElems
import Derived.Deep.Slices
import Derived.Lib.SmallJoins
namespace Go.Proofs.Ytomnhgcjdnhijaa
open Go.RowKit Go.ChangeShapes Go.WideShapes Go.ChangeAt Go.Deep
set_option maxRecDepth 100000

theorem ret_boolVV {a b : Bool} (h : a = b) : Ending.returned (.bool a) = .returned (.bool b) := by rw [h]
theorem ret_i64VV {a b : Int} (h : a = b) : Ending.returned (.int .i64 a) = .returned (.int .i64 b) := by rw [h]
theorem growAVV {w : World} : ∀ u o, w.grownBy u none → w.grownBy (u.alloc o) none := fun _ _ h => grown_trans h (World.grownBy_alloc _ _ none)
theorem growTVV {a b c : World} (k : b.grownBy c none) (h : a.grownBy b none) : a.grownBy c none := grown_trans h k
theorem keepA'VV {a b : World} {o : Obj} (h : a.grownBy b none) : a.grownBy (b.alloc o) none := growAVV _ _ h
theorem cell_laterVV {w : World} {a : Addr} {v : Value} (h : w.cell? a = some v) : ∀ w', w.grownBy w' none → w'.cell? a = some v := fun _ hg => grown_cell hg h
theorem look_later {w : World} {g : Nat} {T : TypeId} {cs : List Value} (hb : Box w g T cs) : ∀ w', w.grownBy w' none → ∀ i, w'.cell? ⟨g, i, none⟩ = cs[i]? := fun _ hg => (hb.grown hg).look

/-- a key: its kind, its article, its warehouse -/
abbrev KeyP := UInt8 × UInt8 × UInt8
/-- what is said of a key: bounds, and what there is at first -/
structure DeclP where
  k : KeyP
  lo : Int
  ini : Int
  hi : Int
structure ConfP where
  sk : Int
  wa : Int
  D : List DeclP
  p : Nat → Nat → UInt8
  sg : Int
  od : Int
  rt : Int
  se : Int
  ca : Int
  bl : Int
  bs : Int

def btw (n lo hi : Int) : Bool := decide (lo ≤ n) && decide (n ≤ hi)
def fineF (s w : Int) : Bool := btw s 1 4 && btw w 1 4
def numbersF (c : ConfP) : Bool :=
  btw c.sk 1 4 && btw c.wa 1 4 && btw c.sg 1 8 && btw c.od 1 32 && btw c.rt 0 4 && btw c.se 64 4096 && btw c.ca 1 1048576 && btw c.bl 64 4096 && btw c.bs 1 1024
def mostF (s o : Int) : Nat := 12 + 343 * clampN s 8 + 318 * clampN o 32
def countF (s w : Int) : Nat := if fineF s w then 2 * s.toNat * w.toNat + 2 * s.toNat else 0
def piecesF (n : Nat) (z : Int) : Nat := if z < 1 then 0 else (n + z.toNat - 1) / z.toNat
def headsF (c : ConfP) : Nat := piecesF (countF c.sk c.wa) (c.bl.toNat / 16 : Nat)
def tablesF (c : ConfP) : Nat := piecesF (mostF c.sg c.od) c.bl
def areaF (c : ConfP) : Nat := headsF c + tablesF c
def needF (c : ConfP) : Nat := 2 * areaF c + 2
theorem mostF_le (s o : Int) : 12 ≤ mostF s o ∧ mostF s o ≤ 12932 := by unfold mostF clampN; omega

end Go.Proofs.Ytomnhgcjdnhijaa
