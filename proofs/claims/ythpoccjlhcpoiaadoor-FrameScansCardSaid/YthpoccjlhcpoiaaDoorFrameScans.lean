/-
  FrameScans.
-/
import Derived.Test.YthpoccjlhcpoiaaDoorFrameScan
namespace Go.Proofs.YthpoccjlhcpoiaaDoor
open Go.RowKit

set_option maxRecDepth 100000 in
set_option maxHeartbeats 3200000 in
theorem frameScans_walk (a : Option Addr) (len cap : Nat) (l0 : List UInt8) (w : World) (hb : InB w a len cap l0) (hT : Tab w) :
    Calls Tryd.prog 4 #[.slice a len cap] w fun r w' => r = .returned (.bool true) ∧ Below w.heap.size w w' := by
  obtain ⟨n, hn, hnk, _, hmin⟩ := min_any len 3000 (by decide)
  obtain ⟨hbl, hbr, hbc⟩ := hb.cut hn
  have h1 := hb.cap_le
  have h2 := hb.max
  generalize l0.take n = l at *
  have HT := Lib.hid hT
  have HS := Lib.hid (show RS w (fun k => w.heap.size ≤ k) a n cap l from ⟨hbl, hbc, h2, RX.of_rb hbr (fun ad h hne => by
    obtain ⟨_, _, e, hc⟩ := hbr 0 (by rcases l with _ | ⟨y, ys⟩; exact absurd rfl hne; simp)
    subst e
    cases h
    have := World.block_lt_of_cell? w _ hc
    simp only at this ⊢
    omega)⟩)
  have hn3 : n ≤ 3000 := by omega
  have i0 : (0 : Int) ≤ (n : Int) := by omega
  have i1 : (n : Int) ≤ (len : Int) := by omega
  have i2 : (n : Int) ≤ (cap : Int) := by omega
  clear hbl hbr hb hnk hT hbc h2
  obtain ⟨⟨p, m, e⟩, hp⟩ : ∃ t, nextF l = t := ⟨_, rfl⟩
  have HP := Lib.hid hp
  obtain ⟨⟨bs, k, f⟩, hp2⟩ : ∃ t, scanF l = t := ⟨_, rfl⟩
  have HP2 := Lib.hid hp2
  clear hp hp2
  go_enter Tryd.func4, Tryd.ntmps4
  go_wp2_with fail
  refine (frame_next a n _ l w HS.out (by omega) HT.out).mono ?_
  rw [HP.out]
  rintro r w1 ⟨a1, n1, c1, rfl, hn1, hr, _, hg⟩
  have HN1 := Lib.hid hn1; have HR1 := Lib.hid hr; have HG1 := Lib.hid hg; have HS1 := Lib.hid (HS.out.grown hg)
  clear hn1 hr hg
  simp only at HN1 HR1
  go_wp2_with fail
  refine (ref_next a n _ l w1 HS1.out (by omega)).mono ?_
  rw [HP.out]
  rintro r w2 ⟨a2, n2, c2, rfl, hr, hg⟩
  have s1 := string_bytes a1 n1 c1 p w2 (HR1.out.old (grown_below hg)) HN1.out
  have s2 := string_bytes a2 n2 c2 p w2 hr.rx.rb hr.len
  have HG2 := Lib.hid (grown_trans HG1.out hg); have HS2 := Lib.hid (HS1.out.grown hg)
  clear hr hg HG1 HS1
  go_wp2_with fail
  clear s1 s2
  refine (frame_scan a n _ l w2 HS2.out (by omega) (HT.out.grown HG2.out)).mono ?_
  rw [HP2.out]
  rintro r w3 ⟨a3, n3, c3, rfl, hn3', hr, hg⟩
  have HN3 := Lib.hid hn3'; have HR3 := Lib.hid hr; have HG3 := Lib.hid (grown_trans HG2.out hg); have HS3 := Lib.hid (HS2.out.grown hg)
  simp only at HN3 HR3
  clear hn3' hr hg HG2 HS2
  go_wp2_with fail
  have HSX := Lib.hid (show RS w3 (fun k => w3.heap.size ≤ k) a n cap l from ⟨HS3.out.len, HS3.out.le, HS3.out.max, fun i hi => by
    obtain ⟨b, o, e, hx, hc⟩ := HS3.out.rx i hi
    exact ⟨b, o, e, fun h => by have := World.block_lt_of_cell? w3 _ hc; simp only at this; omega, hc⟩⟩)
  refine (ref_scan a n _ l w3 HSX.out (by omega)).mono ?_
  rw [HP2.out]
  rintro r w4 ⟨a4, n4, c4, rfl, hn4, hr, hg⟩
  have hn4' : n4 = n3 := by rw [← hn4]; exact HN3.out
  subst hn4'
  have HR4 := Lib.hid hr; have HG4 := Lib.hid (grown_trans HG3.out hg); have HR34 := Lib.hid (HR3.out.grown hg)
  simp only at HR4
  clear hn4 hr hg HG3
  go_wp2_with fail
  refine (frame_same a3 n4 c3 a4 c4 bs w4 HN3.out (by have := scanF_few l; rw [HP2.out] at this; have h := HS3.out.len; have h' := HN3.out; simp only at this; omega) HR34.out.rvb HR4.out.rvb).mono ?_
  rintro r w5 ⟨rfl, hg⟩
  have HG5 := Lib.hid (grown_trans HG4.out hg)
  clear hg
  go_wp2_with fail
  refine (frame_works _ (HT.out.grown HG5.out)).mono ?_
  rintro r w6 ⟨rfl, hg⟩
  have HG6 := Lib.hid (grown_trans HG5.out hg)
  clear hg
  go_wp2_with fail
  go_ret
  exact ⟨rfl, grown_below HG6.out⟩

end Go.Proofs.YthpoccjlhcpoiaaDoor
