/-
  The walks through the four statements on sums.
-/
import Derived.Test.YtfmcbnoldcfcbaaDoorCrcWalk
namespace Go.Proofs.YtfmcbnoldcfcbaaDoor
open Go.RowKit

theorem gTab : Tryd.prog.globalNamed "pledge/crc.half" = some 0 := by kernel_rfl
theorem gTabType : (Tryd.prog.globals[0]?).map (·.type) = some 73 := by kernel_rfl
theorem cellsTab : Tryd.prog.cellsOf 73 = 16 := by kernel_rfl
theorem cellsU32 : Tryd.prog.cellsOf 50 = 1 := by kernel_rfl
/-- what a row's list gives: the table lies there -/
theorem tab_laid {W : World} (h : laidMetH Tryd.prog [("pledge/crc.half", Lib.tabData .u32 halfI)] W) : Tab W := by
  have hT := Lib.tabIs_of_head (rest := []) gTab gTabType Tryd.underlying73 Tryd.underlying50 cellsU32 cellsTab h
  intro i h0 h1
  have hc := hT.cell gTab i.toNat (show i.toNat < 16 by omega)
  exact hc
theorem tab_block {W : World} (h : Tab W) : 0 < W.heap.size := World.block_lt_of_cell? W _ (h 0 (by omega) (by omega))

def nine : List UInt8 := [49, 50, 51, 52, 53, 54, 55, 56, 57]
theorem sum_nine : sumF nine = 3421780262 := by rw [sumF_bv]; decide +kernel

end Go.Proofs.YtfmcbnoldcfcbaaDoor
