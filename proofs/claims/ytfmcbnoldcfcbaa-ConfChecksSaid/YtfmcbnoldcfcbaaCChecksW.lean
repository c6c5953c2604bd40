/-
  ConfChecks.
-/
import Derived.Test.YtfmcbnoldcfcbaaCRCheck
import Derived.Test.YtfmcbnoldcfcbaaCWorks
import Derived.Test.YtfmcbnoldcfcbaaCArgs
namespace Go.Proofs.Ytfmcbnoldcfcbaa
open Go.RowKit
set_option maxRecDepth 100000

set_option maxHeartbeats 12800000 in
theorem confChecks_walk (c : ConfP) (a : Option Addr) (k : Nat) (w : World) (hm : c.D.length ≤ maxLen) (hL : DeclList w a c.D) (hbl : i64 c.bl) :
    Calls Try.prog 7 #[.agg #[.int .i64 c.sk, .int .i64 c.wa, .slice a c.D.length k, .int .u8 ((c.p 0 0).toNat : Int), .int .u8 ((c.p 0 1).toNat : Int), .int .u8 ((c.p 0 2).toNat : Int), .int .u8 ((c.p 0 3).toNat : Int), .int .u8 ((c.p 1 0).toNat : Int), .int .u8 ((c.p 1 1).toNat : Int), .int .u8 ((c.p 1 2).toNat : Int), .int .u8 ((c.p 1 3).toNat : Int), .int .u8 ((c.p 2 0).toNat : Int), .int .u8 ((c.p 2 1).toNat : Int), .int .u8 ((c.p 2 2).toNat : Int), .int .u8 ((c.p 2 3).toNat : Int), .int .u8 ((c.p 3 0).toNat : Int), .int .u8 ((c.p 3 1).toNat : Int), .int .u8 ((c.p 3 2).toNat : Int), .int .u8 ((c.p 3 3).toNat : Int), .int .i64 c.sg, .int .i64 c.od, .int .i64 c.rt, .int .i64 c.se, .int .i64 c.ca, .int .i64 c.bl, .int .i64 c.bs]] w fun e w' => e = .returned (.bool true) ∧ Below w.heap.size w w' := by
  obtain ⟨n, hn⟩ : ∃ n, c.D.length = n := ⟨_, rfl⟩
  rw [hn] at hm ⊢
  have hmx : n ≤ 9223372036854775807 := hm
  have HC1 := Lib.hid (fun u (hg : w.grownBy u none) => conf_check c a n k u (hL.grown hg) hn hm hbl)
  have HC2 := Lib.hid (fun u (hg : w.grownBy u none) => ref_check c a n k u (hL.grown hg) hn hm hbl)
  have HH1 := Lib.hid (fun u => conf_heads c a n k u hbl)
  have HH2 := Lib.hid (fun u => ref_heads c a n k u hbl)
  have HA1 := Lib.hid (fun u => conf_area c a n k u hbl)
  have HA2 := Lib.hid (fun u => ref_area c a n k u hbl)
  have HN1 := Lib.hid (fun u => conf_need c a n k u hbl)
  have HN2 := Lib.hid (fun u => ref_need c a n k u hbl)
  have HW := Lib.hid (fun u => conf_works u)
  obtain ⟨Z, hZ⟩ : ∃ Z, checkF c = Z := ⟨_, rfl⟩
  rw [hZ] at HC1 HC2
  obtain ⟨Z2, hZ2⟩ : ∃ Z : Nat, headsF c = Z := ⟨_, rfl⟩
  rw [hZ2] at HH1 HH2
  obtain ⟨Z3, hZ3⟩ : ∃ Z : Nat, areaF c = Z := ⟨_, rfl⟩
  rw [hZ3] at HA1 HA2
  obtain ⟨Z4, hZ4⟩ : ∃ Z : Nat, needF c = Z := ⟨_, rfl⟩
  rw [hZ4] at HN1 HN2
  obtain ⟨cs, hcs⟩ : ∃ cs : List Value, [.int .i64 c.sk, .int .i64 c.wa, .slice a n k, .int .u8 ((c.p 0 0).toNat : Int), .int .u8 ((c.p 0 1).toNat : Int), .int .u8 ((c.p 0 2).toNat : Int), .int .u8 ((c.p 0 3).toNat : Int), .int .u8 ((c.p 1 0).toNat : Int), .int .u8 ((c.p 1 1).toNat : Int), .int .u8 ((c.p 1 2).toNat : Int), .int .u8 ((c.p 1 3).toNat : Int), .int .u8 ((c.p 2 0).toNat : Int), .int .u8 ((c.p 2 1).toNat : Int), .int .u8 ((c.p 2 2).toNat : Int), .int .u8 ((c.p 2 3).toNat : Int), .int .u8 ((c.p 3 0).toNat : Int), .int .u8 ((c.p 3 1).toNat : Int), .int .u8 ((c.p 3 2).toNat : Int), .int .u8 ((c.p 3 3).toNat : Int), .int .i64 c.sg, .int .i64 c.od, .int .i64 c.rt, .int .i64 c.se, .int .i64 c.ca, .int .i64 c.bl, .int .i64 c.bs] = cs := ⟨_, rfl⟩
  have HLN := Lib.hid (show cs.length = 26 by rw [← hcs]; rfl)
  have h2 : cs[2]? = some (.slice a n k) := by rw [← hcs]; rfl
  rw [hcs] at HC1 HC2 HH1 HH2 HA1 HA2 HN1 HN2 ⊢
  clear hcs hn hL hm hZ hZ2 hZ3 hZ4 hbl
  have hbx := Box.new w 49 cs w.heap.size rfl
  have hg1 := World.grownBy_alloc w (.cells cs.toArray 49) none
  obtain ⟨w1, hw1⟩ : ∃ u, w.alloc (.cells cs.toArray 49) = u := ⟨_, rfl⟩
  have cc : (w.alloc (.cells cs.toArray 49)).cell? ⟨w.heap.size, 2, none⟩ = some (.slice a n k) := hbx.cell 2 h2
  rw [hw1] at hbx hg1
  have HBX := Lib.hid hbx; have HG1 := Lib.hid hg1; have HW1 := Lib.hid (fun _ : True => hw1)
  have HC1 := Lib.hid (fun u (h : w1.grownBy u none) => HC1.out u (grown_trans HG1.out h))
  have HC2 := Lib.hid (fun u (h : w1.grownBy u none) => HC2.out u (grown_trans HG1.out h))
  have HH1 := Lib.hid (fun u (_ : w1.grownBy u none) => HH1.out u)
  have HH2 := Lib.hid (fun u (_ : w1.grownBy u none) => HH2.out u)
  have HA1 := Lib.hid (fun u (_ : w1.grownBy u none) => HA1.out u)
  have HA2 := Lib.hid (fun u (_ : w1.grownBy u none) => HA2.out u)
  have HN1 := Lib.hid (fun u (_ : w1.grownBy u none) => HN1.out u)
  have HN2 := Lib.hid (fun u (_ : w1.grownBy u none) => HN2.out u)
  clear hbx hg1 hw1 h2
  go_enter Try.func7, Try.ntmps7
  by_cases h100 : n > 100
  · have j1 : (n : Int) > 100 := by omega
    go_wp2_with fail
    rw [HW1.out trivial]
    refine (HW.out _).mono ?_
    rintro r w2 ⟨rfl, hg2⟩
    have HG2 := Lib.hid (grown_trans HG1.out hg2)
    clear hg2 cc
    go_wp2_with fail
    go_ret
    exact ⟨rfl, grown_below HG2.out⟩
  · have j1 : ¬ (n : Int) > 100 := by omega
    go_wp2_with fail
    rw [HW1.out trivial]
    clear cc
    have hS0 : w1.grownBy w1.drew none := grown_drew1 _
    have hS1 : w1.grownBy w1 none := World.grownBy.refl _ _
    obtain ⟨N, hN⟩ : ∃ N : Nat, N = 26 := ⟨_, rfl⟩
    have HLD := Lib.hid (fun u (hg : w1.grownBy u none) => load_row u w.heap.size cs N (by rw [hN]; exact HLN.out) (range_conf (HBX.out.grown hg)))
    have ld := HLD.out
    obtain ⟨T, hT⟩ : ∃ T : TypeId, T = 49 := ⟨_, rfl⟩
    have t1 : ∀ u, (isAgg T).run Try.prog u = .ok true u := fun u => by rw [hT]; exact Try.isAgg49 u
    have t2 : ∀ u, (sizeOf T).run Try.prog u = .ok N u := fun u => by rw [hT, hN]; exact Try.sizeOf49 u
    rw [show Op.load 49 (Operand.tmp 1) = Op.load T (Operand.tmp 1) from by rw [hT]]
    have HTT := Lib.hid hT; have HNN := Lib.hid hN
    clear hT hN
    go_region_held_law (fun w' => w1.grownBy w' none) (with_reducible (first | assumption | exact keepA' (by assumption))) (first
      | (go_at_call 27; (with_reducible refine (HC1.out _ (by with_reducible assumption)).mono ?_); rintro r x0 ⟨rfl, g0⟩; have s0 := growT g0 (by with_reducible assumption))
      | (go_at_call 28; (with_reducible refine (HC2.out _ (by with_reducible assumption)).mono ?_); rintro r x1 ⟨rfl, g1⟩; have s1 := growT g1 (by with_reducible assumption))
      | (go_at_call 29; (with_reducible refine (HH1.out _ (by with_reducible assumption)).mono ?_); rintro r x2 ⟨rfl, g2⟩; have s2 := growT g2 (by with_reducible assumption))
      | (go_at_call 30; (with_reducible refine (HH2.out _ (by with_reducible assumption)).mono ?_); rintro r x3 ⟨rfl, g3⟩; have s3 := growT g3 (by with_reducible assumption))
      | (go_at_call 31; (with_reducible refine (HA1.out _ (by with_reducible assumption)).mono ?_); rintro r x4 ⟨rfl, g4⟩; have s4 := growT g4 (by with_reducible assumption))
      | (go_at_call 32; (with_reducible refine (HA2.out _ (by with_reducible assumption)).mono ?_); rintro r x5 ⟨rfl, g5⟩; have s5 := growT g5 (by with_reducible assumption))
      | (go_at_call 33; (with_reducible refine (HN1.out _ (by with_reducible assumption)).mono ?_); rintro r x6 ⟨rfl, g6⟩; have s6 := growT g6 (by with_reducible assumption))
      | (go_at_call 34; (with_reducible refine (HN2.out _ (by with_reducible assumption)).mono ?_); rintro r x7 ⟨rfl, g7⟩; have s7 := growT g7 (by with_reducible assumption))
      | (go_at_call 26; (with_reducible refine (HW.out _).mono ?_); rintro r x9 ⟨rfl, g9⟩; have s9 := growT g9 (by with_reducible assumption)))
    all_goals (
      have HG7 := Lib.hid (grown_trans HG1.out (by with_reducible assumption))
      clear ld t1 t2 hS0 hS1
      go_wp2_with fail
      go_ret
      exact ⟨rfl, grown_below HG7.out⟩)

end Go.Proofs.Ytfmcbnoldcfcbaa
