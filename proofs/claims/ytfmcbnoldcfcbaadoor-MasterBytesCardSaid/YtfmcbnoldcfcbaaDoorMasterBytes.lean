/-
  MasterBytes.
-/
import Derived.Test.YtfmcbnoldcfcbaaDoorMasterPicks
namespace Go.Proofs.YtfmcbnoldcfcbaaDoor
open Go.RowKit

theorem look_at {w : World} {g : Nat} {T : TypeId} {cs : List Value} (hb : Box w g T cs) : ∀ w', w.grownBy w' none → ∀ i, w'.cell? ⟨g, i, none⟩ = cs[i]? := fun _ hg => (hb.grown hg).look
theorem str_at {w : World} {a : Option Addr} {n c : Nat} {l : List UInt8} (hr : RB w a l) (hn : l.length = n) : ∀ u, w.grownBy u none → (convert 25 9 (.slice a n c)).run Tryd.prog u = .ok (.string (strB l)) u :=
  fun u hg => string_bytes a n c l u (hr.old (grown_below hg)) hn

set_option maxRecDepth 100000 in
set_option maxHeartbeats 3200000 in
/-- what stands behind the encoding -/
theorem masterBytes_walk (m : MasterV) (a : Option Addr) (len cap : Nat) (l0 : List UInt8) (w : World) (hm : m.ok) (hb : InB w a len cap l0) (hT : Tab w) :
    Calls Tryd.prog 3 #[.agg #[.int .u64 (m.gen : Int), .int .u8 (m.area.toNat : Int), .int .i64 m.redo, .int .i64 m.tab, .int .i64 m.size], .slice a len cap] w fun r w' => r = .returned (.bool true) ∧ Below w.heap.size w w' := by
  obtain ⟨n, hn, hnk, _, hmin⟩ := min_any len 100 (by decide)
  obtain ⟨hbl, hbr, hbc⟩ := hb.cut hn
  have h1 := hb.cap_le
  have hmx := hb.max
  generalize l0.take n = l at *
  have HS := Lib.hid (rs_of hbl hbc hmx hbr)
  have i0 : (0 : Int) ≤ (n : Int) := by omega
  have i1 : (n : Int) ≤ (len : Int) := by omega
  have i2 : (n : Int) ≤ (cap : Int) := by omega
  have hn100 : n ≤ 1000 := by omega
  have HT := Lib.hid hT
  have HE := Lib.hid (fun w' (hg : w.grownBy w' none) => master_encode m hm w' (HT.out.grown hg))
  have HD := Lib.hid (fun w' (hg : w.grownBy w' none) => master_decode a n cap l w' (HS.out.grown hg) hn100 (HT.out.grown hg))
  have HRD := Lib.hid (fun w' (hg : w.grownBy w' none) => ref_decode a n cap l w' (HS.out.grown hg) hn100)
  have HRG := Lib.hid (fun w' => ref_good m w')
  have HMG := Lib.hid (fun w' => master_good m w')
  have HWK := Lib.hid (fun w' (hg : w.grownBy w' none) => master_works w' (HT.out.grown hg))
  have HRB := Lib.hid (fun (hgd : GoodM m) w' => ref_mbytes m hm hgd w')
  clear hT hbl hbr hb hnk hmx hm
  obtain ⟨⟨x, e⟩, ht⟩ : ∃ t, decM l = t := ⟨_, rfl⟩
  rw [ht] at HD HRD
  clear ht
  obtain ⟨⟨lb, eb⟩, hen⟩ : ∃ t, encM m = t := ⟨_, rfl⟩
  rw [hen] at HE
  have HEN := Lib.hid hen
  clear hen
  obtain ⟨b, hbq⟩ : ∃ b, decide (GoodM m) = b := ⟨_, rfl⟩
  rw [hbq] at HRG HMG
  obtain ⟨wb, hwb⟩ : ∃ wb, w.alloc (.cells #[.int .u64 (m.gen : Int), .int .u8 (m.area.toNat : Int), .int .i64 m.redo, .int .i64 m.tab, .int .i64 m.size] 24) = wb := ⟨_, rfl⟩
  have HB0 := Lib.hid (Box.new w 24 [.int .u64 (m.gen : Int), .int .u8 (m.area.toNat : Int), .int .i64 m.redo, .int .i64 m.tab, .int .i64 m.size] _ rfl)
  have hgb := World.grownBy_alloc w (.cells #[.int .u64 (m.gen : Int), .int .u8 (m.area.toNat : Int), .int .i64 m.redo, .int .i64 m.tab, .int .i64 m.size] 24) none
  rw [show ([Value.int .u64 (m.gen : Int), .int .u8 (m.area.toNat : Int), .int .i64 m.redo, .int .i64 m.tab, .int .i64 m.size].toArray) = #[.int .u64 (m.gen : Int), .int .u8 (m.area.toNat : Int), .int .i64 m.redo, .int .i64 m.tab, .int .i64 m.size] from rfl, hwb] at HB0
  rw [hwb] at hgb
  have HGB := Lib.hid hgb
  have HWB := Lib.hid hwb
  have hlook := look_at HB0.out
  have HBQ := Lib.hid hbq
  clear hwb hgb hbq
  go_enter Tryd.func3, Tryd.ntmps3
  go_wp2_with fail
  rw [HWB.out]
  refine (HE.out _ HGB.out).mono ?_
  rintro r w1 ⟨a1, n1, c1, rfl, hn1, hr1, _, hg1, _⟩
  have HN1 := Lib.hid hn1; have HR1 := Lib.hid hr1
  clear hn1 hr1
  go_wp2_with fail
  refine (HRG.out _).mono ?_
  rintro r w2 ⟨rfl, hg2⟩
  have hg := grown_trans hg1 hg2
  have HR2 := Lib.hid (HR1.out.old (grown_below hg2))
  clear hg1 hg2 HR1
  go_upto_if 23 with (fail)
  go_cut [] (fun wx => wb.grownBy wx none)
  case first =>
    have HW := Lib.hid hg
    cases b
    · have hng : ¬ GoodM m := by have := HBQ.out; simpa using this
      have hen := HEN.out
      unfold encM at hen
      rw [if_neg hng] at hen
      obtain ⟨rfl, rfl⟩ : lb = [] ∧ eb = 1 := ⟨(congrArg Prod.fst hen).symm, (congrArg Prod.snd hen).symm⟩
      obtain rfl : n1 = 0 := HN1.out.symm
      clear hng hen
      go_wp2_with fail
      go_meet
      exact HW.out
    · have hgd : GoodM m := by have := HBQ.out; simpa using this
      have hen := HEN.out
      unfold encM at hen
      rw [if_pos hgd] at hen
      obtain ⟨rfl, rfl⟩ : lb = masterB m ∧ eb = 0 := ⟨(congrArg Prod.fst hen).symm, (congrArg Prod.snd hen).symm⟩
      have HRB2 := Lib.hid (HRB.out hgd)
      have hst := str_at (c := c1) HR2.out HN1.out
      clear hgd hen
      have hS0 : w2.grownBy w2.drew none := grown_drew1 _
      have hS1 : w2.grownBy w2 none := World.grownBy.refl _ _
      have hlook2 := fun w' (hg' : w2.grownBy w' none) => hlook w' (grown_trans HW.out hg')
      clear hlook hg
      go_wp2_with fail
      go_region_held_law (fun w' => w2.grownBy w' none) (with_reducible (first | assumption | exact keepA (by assumption))) (first
        | (go_at_call 9; refine (HRB2.out _).mono ?_; rintro r w5 ⟨a5, n5, c5, rfl, hn5, ho5, hg5⟩; have hSa := keepT hg5 (by with_reducible assumption); have hs5 := string_bytes a5 n5 c5 _ w5 (RB.of_own ho5) hn5; clear ho5 hn5))
      all_goals (
        go_wp2_with fail
        go_meet
        exact grown_trans HW.out (by with_reducible assumption))
  case rest =>
    have HC := Lib.hid hcut
    clear hg
    go_wp2_with fail
    refine (HD.out _ (grown_trans HGB.out HC.out)).mono ?_
    rintro r w3 ⟨rfl, hg3⟩
    have hga := World.grownBy_alloc w3 (.cells #[.int .u64 (x.gen : Int), .int .u8 (x.area.toNat : Int), .int .i64 x.redo, .int .i64 x.tab, .int .i64 x.size] 24) none
    have HBX := Lib.hid (Box.new w3 24 [.int .u64 (x.gen : Int), .int .u8 (x.area.toNat : Int), .int .i64 x.redo, .int .i64 x.tab, .int .i64 x.size] w3.heap.size rfl)
    have HG3 := Lib.hid (grown_trans (grown_trans HC.out hg3) hga)
    have HLT := Lib.hid (Nat.le_trans HGB.out.size (grown_trans HC.out hg3).size)
    clear hga hg3 hcut
    go_wp2_with fail
    refine (HRD.out _ (grown_trans HGB.out HG3.out)).mono ?_
    rintro r w4 ⟨rfl, hg4⟩
    have hgy := World.grownBy_alloc w4 (.cells #[.int .u64 (x.gen : Int), .int .u8 (x.area.toNat : Int), .int .i64 x.redo, .int .i64 x.tab, .int .i64 x.size] 24) none
    have HBY := Lib.hid (Box.new w4 24 [.int .u64 (x.gen : Int), .int .u8 (x.area.toNat : Int), .int .i64 x.redo, .int .i64 x.tab, .int .i64 x.size] w4.heap.size rfl)
    have HBX4 := Lib.hid ((HBX.out.grown hg4).grown hgy)
    have HG4 := Lib.hid (grown_trans (grown_trans HG3.out hg4) hgy)
    clear hg4 hgy HBX HG3
    go_wp2_with fail
    generalize w4.alloc (.cells #[.int .u64 (x.gen : Int), .int .u8 (x.area.toNat : Int), .int .i64 x.redo, .int .i64 x.tab, .int .i64 x.size] 24) = w5 at *
    generalize w4.heap.size = bx at *
    generalize w3.heap.size = by' at *
    have hX := look_at HBX4.out
    have hY := look_at HBY.out
    have hlook5 := fun w' (hg' : w5.grownBy w' none) => hlook w' (grown_trans HG4.out hg')
    clear hlook
    have hS0 : w5.grownBy w5.drew none := grown_drew1 _
    have hS1 : w5.grownBy w5 none := World.grownBy.refl _ _
    go_region_held_law (fun w' => w5.grownBy w' none) (with_reducible (first | assumption | exact keepA (by assumption))) (first
      | (go_at_call 12; refine (HMG.out _).mono ?_; rintro r w6 ⟨rfl, hg6⟩; have hSa := keepT hg6 (by with_reducible assumption))
      | (go_at_call 8; refine (HRG.out _).mono ?_; rintro r w7 ⟨rfl, hg7⟩; have hSa := keepT hg7 (by with_reducible assumption))
      | (go_at_call 13; refine (HWK.out _ (grown_trans HGB.out (grown_trans HG4.out (by with_reducible assumption)))).mono ?_; rintro r w8 ⟨rfl, hg8⟩; have hSa := keepT hg8 (by with_reducible assumption)))
    all_goals (
      go_wp2_with fail
      go_ret
      exact ⟨rfl, grown_below (grown_trans HGB.out (grown_trans HG4.out (by with_reducible assumption)))⟩)

end Go.Proofs.YtfmcbnoldcfcbaaDoor
