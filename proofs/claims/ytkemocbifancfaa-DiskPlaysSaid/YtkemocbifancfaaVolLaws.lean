/-
  The walks through the statements on volumes: the example, and nil.
-/
import Derived.Test.YtkemocbifancfaaVolMore
namespace Go.Proofs.Ytkemocbifancfaa
open Go.RowKit
set_option maxRecDepth 100000

def volFinal : List UInt8 := [120, 121, 0, 100]

end Go.Proofs.Ytkemocbifancfaa
