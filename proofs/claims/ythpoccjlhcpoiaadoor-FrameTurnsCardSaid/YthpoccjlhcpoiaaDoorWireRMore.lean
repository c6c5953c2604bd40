/-
  The walks through the package wire: 'Int', 'Bool', 'Bytes', 'End' of the reader.
-/
import Derived.Test.YthpoccjlhcpoiaaDoorWireRNum
namespace Go.Proofs.YthpoccjlhcpoiaaDoor
open Go.RowKit

/-- what 'Bool' does: the truth, what is wrong, what is left -/
def boolR (e : Int) (l : List UInt8) : Bool × Int × List UInt8 :=
  ((numR e l 1).1 == 1, if 1 < (numR e l 1).1 then (if (numR e l 1).2.1 = 0 then 8 else (numR e l 1).2.1) else (numR e l 1).2.1, (numR e l 1).2.2)

/-- what 'Bytes' does: the bytes, what is wrong, what is left -/
def bytesR (e : Int) (l : List UInt8) (most : Int) : List UInt8 × Int × List UInt8 :=
  let t := numR e l 2
  if t.2.1 ≠ 0 then ([], t.2) else if most < t.1 then ([], 7, t.2.2) else takeR 0 t.2.2 t.1

/-- what 'End' tells -/
def endR (e : Int) (l : List UInt8) : Int := if e = 0 then (if l = [] then 0 else 8) else e
end Go.Proofs.YthpoccjlhcpoiaaDoor
