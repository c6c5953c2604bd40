/-
  The document's own functions for masters: 'Good', 'num'.
-/
import Derived.Test.YtfmcbnoldcfcbaaDoorMasterPick
namespace Go.Proofs.YtfmcbnoldcfcbaaDoor
open Go.RowKit

set_option maxHeartbeats 1600000 in
theorem ref_good (m : MasterV) (w : World) :
    Calls Tryd.prog 8 #[.agg #[.int .u64 (m.gen : Int), .int .u8 (m.area.toNat : Int), .int .i64 m.redo, .int .i64 m.tab, .int .i64 m.size]] w fun r w' => r = .returned (.bool (decide (GoodM m))) ∧ w.grownBy w' none := by
  have HGA := Lib.hid (World.grownBy_alloc w (.cells #[.int .u64 (m.gen : Int), .int .u8 (m.area.toNat : Int), .int .i64 m.redo, .int .i64 m.tab, .int .i64 m.size] 24) none)
  obtain ⟨b, hb⟩ : ∃ b, decide (GoodM m) = b := ⟨_, rfl⟩
  rw [hb]
  have HB := Lib.hid hb
  clear hb
  by_cases h1 : m.gen = 0
  · have h1' : ((m.gen : Int) != 0) = false := by simp [h1]
    obtain rfl : b = false := by rw [← HB.out]; simp [GoodM, h1]
    clear h1
    go_enter Tryd.func8, Tryd.ntmps8
    go_wp2_with fail
    go_ret
    exact ⟨rfl, HGA.out⟩
  have h1' : ((m.gen : Int) != 0) = true := by simp; omega
  by_cases h2 : m.area.toNat ≤ 1
  · have h2' : (m.area.toNat : Int) ≤ 1 := by omega
    by_cases h3 : 0 ≤ m.redo
    · by_cases h4 : m.redo ≤ m.tab
      · by_cases h5 : 0 ≤ m.size
        · obtain rfl : b = true := by rw [← HB.out]; exact decide_eq_true ⟨h1, h2, h3, h4, h5⟩
          clear h1 h2
          go_enter Tryd.func8, Tryd.ntmps8
          go_wp2_with fail
          go_ret
          exact ⟨rfl, HGA.out⟩
        · obtain rfl : b = false := by rw [← HB.out]; exact decide_eq_false (fun h => h5 h.2.2.2.2)
          clear h1 h2
          go_enter Tryd.func8, Tryd.ntmps8
          go_wp2_with fail
          go_ret
          exact ⟨rfl, HGA.out⟩
      · obtain rfl : b = false := by rw [← HB.out]; exact decide_eq_false (fun h => h4 h.2.2.2.1)
        clear h1 h2
        go_enter Tryd.func8, Tryd.ntmps8
        go_wp2_with fail
        go_ret
        exact ⟨rfl, HGA.out⟩
    · obtain rfl : b = false := by rw [← HB.out]; exact decide_eq_false (fun h => h3 h.2.2.1)
      clear h1 h2
      go_enter Tryd.func8, Tryd.ntmps8
      go_wp2_with fail
      go_ret
      exact ⟨rfl, HGA.out⟩
  · have h2' : (1 : Int) < (m.area.toNat : Int) := by omega
    obtain rfl : b = false := by rw [← HB.out]; exact decide_eq_false (fun h => h2 h.2.1)
    clear h1 h2
    go_enter Tryd.func8, Tryd.ntmps8
    go_wp2_with fail
    go_ret
    exact ⟨rfl, HGA.out⟩

/-- a number of eight bytes, or none -/
def numM (l : List UInt8) : Nat := (getNum l 8).1
theorem ref_num8 {X : Nat → Prop} (a : Option Addr) (n cap : Nat) (l : List UInt8) (w : World) (hs : RS w X a n cap l) :
    Calls Tryd.prog 29 #[.slice a n cap] w fun r w' => r = .returned (.int .u64 (numM l : Int)) ∧ w.grownBy w' none := by
  have HC := Lib.hid (ref_getnum a n cap l 8 w hs)
  clear hs
  go_enter Tryd.func29, Tryd.ntmps29
  go_wp2_with fail
  refine HC.out.mono ?_
  rintro r w1 ⟨r1, n1, c1, rfl, _, hg⟩
  have HG := Lib.hid hg
  clear hg
  go_wp2_with fail
  go_ret
  exact ⟨rfl, HG.out⟩

end Go.Proofs.YtfmcbnoldcfcbaaDoor
