/-
  The walks through the package wire: 'Int', 'Bool', 'Bytes', 'End' of the reader.
-/
import Derived.Test.YtfmcbnoldcfcbaaDoorWireRNum
namespace Go.Proofs.YtfmcbnoldcfcbaaDoor
open Go.RowKit

theorem wire_rint {w : World} {g : Nat} {X : Nat → Prop} {e : Int} {l : List UInt8} (R : ReaderAt w g X e l) :
    Calls Tryd.prog 27 #[.pointer (some ⟨g, 0, none⟩)] w fun r w' =>
      r = .returned (.int .i64 (wrap64 ((numR e l 8).1 : Int))) ∧ ReaderAt w' g X (numR e l 8).2.1 (numR e l 8).2.2 ∧ w.grownBy w' (some g) := by
  have HC := Lib.hid (wire_rnum R 8)
  clear R
  go_enter Tryd.func27, Tryd.ntmps27
  go_wp2_with fail
  refine HC.out.mono ?_
  rintro r w1 ⟨rfl, hp, hg⟩
  have HP := Lib.hid hp; have HG := Lib.hid hg
  clear hp hg HC
  go_wp2_with fail
  go_ret
  exact ⟨rfl, HP.out, HG.out⟩
theorem wire_rint_nil (w : World) :
    Calls Tryd.prog 27 #[.pointer none] w fun r w' => r = .returned (.int .i64 0) ∧ w = w' := by
  go_enter Tryd.func27, Tryd.ntmps27
  go_wp2_with fail
  refine (wire_rnum_nil w 8).mono ?_
  rintro r w1 ⟨rfl, rfl⟩
  go_wp2_with fail
  go_ret
  exact ⟨rfl, rfl⟩

/-- what 'Bool' does: the truth, what is wrong, what is left -/
def boolR (e : Int) (l : List UInt8) : Bool × Int × List UInt8 :=
  ((numR e l 1).1 == 1, if 1 < (numR e l 1).1 then (if (numR e l 1).2.1 = 0 then 8 else (numR e l 1).2.1) else (numR e l 1).2.1, (numR e l 1).2.2)

/-- what 'Bytes' does: the bytes, what is wrong, what is left -/
def bytesR (e : Int) (l : List UInt8) (most : Int) : List UInt8 × Int × List UInt8 :=
  let t := numR e l 2
  if t.2.1 ≠ 0 then ([], t.2) else if most < t.1 then ([], 7, t.2.2) else takeR 0 t.2.2 t.1

/-- what 'End' tells -/
def endR (e : Int) (l : List UInt8) : Int := if e = 0 then (if l = [] then 0 else 8) else e
end Go.Proofs.YtfmcbnoldcfcbaaDoor
