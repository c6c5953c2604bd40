/-
  MasterPicks.
-/
import Derived.Test.YtfmcbnoldcfcbaaDoorMasterRPick
import Derived.Test.YtfmcbnoldcfcbaaDoorMasterRBytes
import Derived.Test.YtfmcbnoldcfcbaaDoorMasterArgs
namespace Go.Proofs.YtfmcbnoldcfcbaaDoor
open Go.RowKit

set_option maxRecDepth 100000 in
set_option maxHeartbeats 3200000 in
theorem masterPicks_walk (a : Option Addr) (len cap : Nat) (l0 : List UInt8) (a' : Option Addr) (len' cap' : Nat) (l0' : List UInt8) (w : World) (hb : InB w a len cap l0) (hb' : InB w a' len' cap' l0') (hT : Tab w) :
    Calls Tryd.prog 4 #[.slice a len cap, .slice a' len' cap'] w fun r w' => r = .returned (.bool true) ∧ Below w.heap.size w w' := by
  obtain ⟨n, hn, hnk, _, hmin⟩ := min_any len 100 (by decide)
  obtain ⟨hbl, hbr, hbc⟩ := hb.cut hn
  obtain ⟨n', hn', hnk', _, hmin'⟩ := min_any len' 100 (by decide)
  obtain ⟨hbl', hbr', hbc'⟩ := hb'.cut hn'
  have h1 := hb.cap_le
  have h1' := hb'.cap_le
  have hmx := hb.max
  have hmx' := hb'.max
  generalize l0.take n = l at *
  generalize l0'.take n' = l' at *
  have HS := Lib.hid (rs_of hbl hbc hmx hbr); have HS' := Lib.hid (rs_of hbl' hbc' hmx' hbr')
  have i0 : (0 : Int) ≤ (n : Int) := by omega
  have i1 : (n : Int) ≤ (len : Int) := by omega
  have i2 : (n : Int) ≤ (cap : Int) := by omega
  have j0 : (0 : Int) ≤ (n' : Int) := by omega
  have j1 : (n' : Int) ≤ (len' : Int) := by omega
  have j2 : (n' : Int) ≤ (cap' : Int) := by omega
  have hn100 : n ≤ 1000 := by omega
  have hn100' : n' ≤ 1000 := by omega
  have HT := Lib.hid hT
  clear hT hbl hbr hbl' hbr' hb hb' hnk hnk' hmx hmx'
  obtain ⟨t, ht⟩ : ∃ t, pickM (decM l) (decM l') = t := ⟨_, rfl⟩
  have HK := Lib.hid (fun w' (hg : w.grownBy w' none) => master_pick a n cap l a' n' cap' l' w' (HS.out.grown hg) hn100 (HS'.out.grown hg) hn100' (HT.out.grown hg))
  have HR := Lib.hid (fun w' (hg : w.grownBy w' none) => ref_pick a n cap l a' n' cap' l' w' (HS.out.grown hg) hn100 (HS'.out.grown hg) hn100')
  rw [ht] at HK HR
  obtain ⟨m, k, e⟩ := t
  clear ht
  go_enter Tryd.func4, Tryd.ntmps4
  go_wp2_with fail
  go_quiet (fail)
  go_wp2_with fail
  refine (HK.out _ (grown_drewN _ _)).mono ?_
  rintro r w1 ⟨rfl, hg⟩
  have HG1 := Lib.hid (grown_trans (grown_drewN _ _) hg)
  clear hg
  go_wp2_with fail
  have hga := World.grownBy_alloc w1 (.cells #[.int .u64 (m.gen : Int), .int .u8 (m.area.toNat : Int), .int .i64 m.redo, .int .i64 m.tab, .int .i64 m.size] 24) none
  have HBX := Lib.hid (Box.new w1 24 [.int .u64 (m.gen : Int), .int .u8 (m.area.toNat : Int), .int .i64 m.redo, .int .i64 m.tab, .int .i64 m.size] w1.heap.size rfl)
  have HG2 := Lib.hid (grown_trans HG1.out hga)
  clear hga
  refine (HR.out _ HG2.out).mono ?_
  rintro r w3 ⟨rfl, hg⟩
  have HG3 := Lib.hid (grown_trans HG2.out hg)
  have X3 := (HBX.out.grown hg).look
  have hlt := (HBX.out.grown hg).lt
  clear hg
  go_wp2_with fail
  refine (master_works _ (HT.out.grown (grown_trans HG3.out (World.grownBy_alloc _ _ none)))).mono ?_
  rintro r w4 ⟨rfl, hg⟩
  have HG4 := Lib.hid (grown_trans (grown_trans HG3.out (World.grownBy_alloc _ _ none)) hg)
  clear hg
  go_wp2_with fail
  go_ret
  exact ⟨rfl, grown_below HG4.out⟩

end Go.Proofs.YtfmcbnoldcfcbaaDoor
