/-
  The walks through the four statements on sums.
-/
import Derived.Test.YtnikeceeclfnpaaDoorCrcWalk
namespace Go.Proofs.YtnikeceeclfnpaaDoor
open Go.RowKit

theorem gTab : Tryd.prog.globalNamed "pledge/crc.half" = some 0 := by kernel_rfl
theorem gTabType : (Tryd.prog.globals[0]?).map (·.type) = some 33 := by kernel_rfl
theorem cellsTab : Tryd.prog.cellsOf 33 = 16 := by kernel_rfl
theorem cellsU32 : Tryd.prog.cellsOf 23 = 1 := by kernel_rfl
/-- what a row's list gives: the table lies there -/
theorem tab_laid {W : World} (h : laidMetH Tryd.prog [("pledge/crc.half", Lib.tabData .u32 halfI)] W) : Tab W := by
  have hT := Lib.tabIs_of_head (rest := []) gTab gTabType Tryd.underlying33 Tryd.underlying23 cellsU32 cellsTab h
  intro i h0 h1
  have hc := hT.cell gTab i.toNat (show i.toNat < 16 by omega)
  exact hc
theorem tab_block {W : World} (h : Tab W) : 0 < W.heap.size := World.block_lt_of_cell? W _ (h 0 (by omega) (by omega))

def nine : List UInt8 := [49, 50, 51, 52, 53, 54, 55, 56, 57]
theorem sum_nine : sumF nine = 3421780262 := by rw [sumF_bv]; decide +kernel

theorem crc_works (w : World) (hT : Tab w) (hg : 0 < w.heap.size) :
    Calls Tryd.prog 10 #[] w fun e w' => e = .returned (.bool true) ∧ Below w.heap.size w w' := by
  have HT := Lib.hid hT; clear hT
  have HS := Lib.hid sum_nine
  have kc := fun (w : World) (C : Array Value) (n c g : Nat) (hg : g = w.heap.size) => Joins.run_convert_bytes_const_at (P := Tryd.prog) w 22 5 C n c g hg Tryd.underlying22 Tryd.underlying5
  go_enter Tryd.func10, Tryd.ntmps10
  go_wp2_with fail
  refine (sum_any _ _ _ nine _ rfl (by decide) (HT.out.below ((Below.refl _ _).alloc (Nat.le_refl _) _) hg) (RB.const _ _ _ _ _ _ rfl rfl)).mono ?_
  rintro e w1 ⟨rfl, rfl⟩
  rw [HS.out]
  go_wp2_with fail
  refine (same_any _ _ _ nine 3421780262 _ rfl (by decide) (HT.out.below (((Below.refl _ _).alloc (Nat.le_refl _) _).alloc (by simp) _) hg) (RB.const _ _ _ _ _ _ (by simp) rfl)).mono ?_
  rintro e w1 ⟨rfl, rfl⟩
  rw [HS.out]
  go_wp2_with fail
  go_ret
  exact ⟨rfl, ((Below.refl _ _).alloc (Nat.le_refl _) _).alloc (by simp) _⟩

set_option maxHeartbeats 400000 in
theorem sums_walk (a : Option Addr) (len cap : Nat) (l : List UInt8) (s : Int) (w : World) (hb : InB w a len cap l) (hT : Tab w) (hg : 0 < w.heap.size) :
    Calls Tryd.prog 3 #[.slice a len cap, .int .u32 s] w fun e w' => e = .returned (.bool true) ∧ Below w.heap.size w w' := by
  have HT := Lib.hid hT; clear hT
  have HB := Lib.hid hb
  have h1 := hb.cap_le
  have h2 := hb.max; unfold maxLen at h2
  clear hb
  obtain ⟨m, n, hn, hnl, hr, hcut⟩ : ∃ (m : List UInt8) (n : Nat), m.length = n ∧ n ≤ 2000 ∧ RB w a m ∧ (len ≤ 2000 ∧ n = len ∨ ¬ len ≤ 2000 ∧ n = 2000) := by
    by_cases h : len ≤ 2000
    · exact ⟨l, len, HB.out.len_eq, h, HB.out.reads, .inl ⟨h, rfl⟩⟩
    · exact ⟨l.take 2000, 2000, by rw [List.length_take, HB.out.len_eq]; omega, by omega, HB.out.reads.take _, .inr ⟨h, rfl⟩⟩
  have HN := Lib.hid hn; have HR := Lib.hid hr; clear hn hr
  rcases hcut with ⟨hlen, rfl⟩ | ⟨hlen, rfl⟩
  all_goals
    go_enter Tryd.func3, Tryd.ntmps3
    go_wp2_with fail
    refine (rsum_any _ _ _ m _ HN.out (by omega) HR.out).mono ?_
    rintro e w1 ⟨rfl, rfl⟩
    go_wp2_with fail
    refine (sum_any _ _ _ m _ HN.out (by omega) HT.out HR.out).mono ?_
    rintro e w1 ⟨rfl, rfl⟩
    go_wp2_with fail
    refine (same_any _ _ _ m _ _ HN.out (by omega) HT.out HR.out).mono ?_
    rintro e w1 ⟨rfl, rfl⟩
    go_wp2_with fail
    refine (same_any _ _ _ m _ _ HN.out (by omega) HT.out HR.out).mono ?_
    rintro e w1 ⟨rfl, rfl⟩
    have hcomm : (sumF m == s) = (s == sumF m) := Bool.eq_iff_iff.2 (by simp only [beq_iff_eq]; exact eq_comm)
    go_wp2_with fail
    clear hcomm
    refine (crc_works _ HT.out hg).mono ?_
    rintro e w1 ⟨rfl, hbel⟩
    go_wp2_with fail
    go_ret
    exact ⟨rfl, hbel⟩
end Go.Proofs.YtnikeceeclfnpaaDoor
