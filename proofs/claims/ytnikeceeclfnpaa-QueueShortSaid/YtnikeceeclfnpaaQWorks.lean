/-
  Who waits: the chapter's example; an act.
-/
import Derived.Test.YtnikeceeclfnpaaQRefB
namespace Go.Proofs.Ytnikeceeclfnpaa
open Go.RowKit
set_option maxRecDepth 100000

theorem works_j1 : joinF [] (5, 0) = ([(5, 0)], 0) := by decide +kernel
theorem works_j2 : joinF [(5, 0)] (7, 0) = ([(5, 0), (7, 0)], 0) := by decide +kernel
theorem works_p1 : placeF [(5, 0), (7, 0)] (7, 0) = (1, true) := by decide +kernel
theorem works_l : leaveF [(5, 0), (7, 0)] (5, 0) = ([(7, 0)], 0) := by decide +kernel
theorem works_p2 : placeF [(7, 0)] (7, 0) = (0, true) := by decide +kernel
set_option maxHeartbeats 3200000 in
theorem queue_works (w : World) : Calls Try.prog 33 #[] w fun r w' => r = .returned (.bool true) ∧ w.grownBy w' none := by
  have H1 := Lib.hid (show Calls Try.prog 22 #[.slice none 0 0, .agg #[.int .u32 5, .int .u8 0]] w (Two w ([(5, 0)], 0)) by
    have h := q_join none 0 0 [] (5, 0) w (WaitList.nil _ _) rfl (by omega)
    rw [works_j1] at h
    exact h)
  go_enter Try.func33, Try.ntmps33
  go_wp2_with fail
  refine H1.out.mono ?_
  rintro r w1 ⟨a1, n1, c1, rfl, hl1, hg1⟩
  obtain rfl : n1 = 1 := hl1.2.1.symm
  have H2 := Lib.hid (show Calls Try.prog 22 #[.slice a1 1 c1, .agg #[.int .u32 7, .int .u8 0]] w1 (Two w1 ([(5, 0), (7, 0)], 0)) by
    have h := q_join a1 1 c1 [(5, 0)] (7, 0) w1 hl1.1 hl1.2.1 (by omega)
    rw [works_j2] at h
    exact h)
  have HG1 := Lib.hid hg1
  clear hl1 hg1
  go_wp2_with fail
  refine H2.out.mono ?_
  rintro r w2 ⟨a2, n2, c2, rfl, hl2, hg2⟩
  obtain rfl : n2 = 2 := hl2.2.1.symm
  have HL2 := Lib.hid hl2
  have H3 := Lib.hid (show Calls Try.prog 26 #[.slice a2 2 c2, .agg #[.int .u32 7, .int .u8 0]] w2 (fun r w' => r = .returned (.tuple #[.int .i64 1, .bool true]) ∧ w2.grownBy w' none) by
    have h := q_place a2 2 c2 [(5, 0), (7, 0)] (7, 0) w2 hl2 (by omega)
    rw [works_p1] at h
    exact h)
  have HG2 := Lib.hid (grown_trans HG1.out hg2)
  clear hl2 hg2 
  go_wp2_with fail
  refine H3.out.mono ?_
  rintro r w3 ⟨rfl, hg3⟩
  have H4 := Lib.hid (show Calls Try.prog 24 #[.slice a2 2 c2, .agg #[.int .u32 5, .int .u8 0]] w3 (Two w3 ([(7, 0)], 0)) by
    have h := q_leave a2 2 c2 [(5, 0), (7, 0)] (5, 0) w3 (HL2.out.1.grown hg3) HL2.out.2.1 (by omega)
    rw [works_l] at h
    exact h)
  have HG3 := Lib.hid (grown_trans HG2.out hg3)
  clear hg3
  go_wp2_with fail
  refine H4.out.mono ?_
  rintro r w4 ⟨a4, n4, c4, rfl, hl4, hg4⟩
  obtain rfl : n4 = 1 := hl4.2.1.symm
  have H5 := Lib.hid (show Calls Try.prog 26 #[.slice a4 1 c4, .agg #[.int .u32 7, .int .u8 0]] w4 (fun r w' => r = .returned (.tuple #[.int .i64 0, .bool true]) ∧ w4.grownBy w' none) by
    have h := q_place a4 1 c4 [(7, 0)] (7, 0) w4 hl4 (by omega)
    rw [works_p2] at h
    exact h)
  have HG4 := Lib.hid (grown_trans HG3.out hg4)
  clear hl4 hg4
  go_wp2_with fail
  refine H5.out.mono ?_
  rintro r w5 ⟨rfl, hg5⟩
  have HG5 := Lib.hid (grown_trans HG4.out hg5)
  clear hg5
  go_wp2_with fail
  go_ret
  exact ⟨rfl, HG5.out⟩

def doF (L : List WaitP) (k : UInt8) (x : WaitP) : List WaitP := if k.toNat % 3 = 0 then (joinF L x).1 else if k.toNat % 3 = 1 then (leaveF L x).1 else quitF L x.1
set_option maxHeartbeats 3200000 in
theorem law_do (a : Option Addr) (n c : Nat) (L : List WaitP) (k : UInt8) (x : WaitP) (w : World) (hL : WaitList w a L) (hn : L.length = n) (hsm : n ≤ 100000) :
    Calls Try.prog 34 #[.slice a n c, .agg #[.int .u8 (k.toNat : Int), .int .u32 (x.1 : Int), .int .u8 (x.2.toNat : Int)]] w (One w (doF L k x)) := by
  have hA := World.grownBy_alloc w (.cells #[.int .u8 (k.toNat : Int), .int .u32 (x.1 : Int), .int .u8 (x.2.toNat : Int)] 64) none
  have XL := (Box.new w 64 [.int .u8 (k.toNat : Int), .int .u32 (x.1 : Int), .int .u8 (x.2.toNat : Int)] w.heap.size rfl).look
  have HJ := Lib.hid (q_join a n c L x _ (hL.grown hA) hn hsm)
  have HV := Lib.hid (q_leave a n c L x _ (hL.grown hA) hn hsm)
  have HQ := Lib.hid (q_quit a n c L x.1 _ (hL.grown hA) hn hsm)
  have HA := Lib.hid hA
  have hk3 : k.toNat % 3 = 0 ∨ k.toNat % 3 = 1 ∨ k.toNat % 3 = 2 := by omega
  clear hL hn hA
  rcases hk3 with h | h | h
  · rw [show doF L k x = (joinF L x).1 from by unfold doF; rw [if_pos h]]
    have hz : (k.toNat : Int) % 3 = 0 := by omega
    clear h
    go_enter Try.func34, Try.ntmps34
    go_wp2_with fail
    refine HJ.out.mono ?_
    rintro r w2 ⟨a2, n2, c2, rfl, hl2, hg2⟩
    have HL2 := Lib.hid hl2; have HG2 := Lib.hid (grown_trans HA.out hg2)
    clear hl2 hg2 XL
    go_wp2_with fail
    go_ret
    exact ⟨_, _, _, rfl, HL2.out, HG2.out⟩
  · rw [show doF L k x = (leaveF L x).1 from by unfold doF; rw [if_neg (by omega), if_pos h]]
    have hz : (k.toNat : Int) % 3 = 1 := by omega
    clear h
    go_enter Try.func34, Try.ntmps34
    go_wp2_with fail
    refine HV.out.mono ?_
    rintro r w2 ⟨a2, n2, c2, rfl, hl2, hg2⟩
    have HL2 := Lib.hid hl2; have HG2 := Lib.hid (grown_trans HA.out hg2)
    clear hl2 hg2 XL
    go_wp2_with fail
    go_ret
    exact ⟨_, _, _, rfl, HL2.out, HG2.out⟩
  · rw [show doF L k x = quitF L x.1 from by unfold doF; rw [if_neg (by omega), if_neg (by omega)]]
    have hz : (k.toNat : Int) % 3 = 2 := by omega
    clear h
    go_enter Try.func34, Try.ntmps34
    go_wp2_with fail
    refine HQ.out.mono ?_
    rintro r w2 ⟨a2, n2, c2, rfl, hl2, hg2⟩
    have HL2 := Lib.hid hl2; have HG2 := Lib.hid (grown_trans HA.out hg2)
    clear hl2 hg2 XL
    go_wp2_with fail
    go_ret
    exact ⟨_, _, _, rfl, HL2.out, HG2.out⟩

end Go.Proofs.Ytnikeceeclfnpaa
