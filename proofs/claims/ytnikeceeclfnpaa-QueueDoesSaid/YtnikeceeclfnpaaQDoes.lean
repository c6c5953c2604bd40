/-
  QueueDoes.
-/
import Derived.Test.YtnikeceeclfnpaaQWorks
namespace Go.Proofs.Ytnikeceeclfnpaa
open Go.RowKit
set_option maxRecDepth 100000

theorem r_same1 {a : Option Addr} {n c : Nat} {L : List WaitP} {a' : Option Addr} {n' c' : Nat} {w : World} (h : Lies w a n c L) (h' : Lies w a' n' c' L) :
    Calls Try.prog 30 #[.slice a n c, .slice a' n' c'] w fun r w' => r = .returned (.bool true) ∧ w.grownBy w' none := by
  have hc := r_same a n c L a' n' c' L w h.1 h.2.1 h'.1 h'.2.1 (Nat.le_trans h.2.2.1 h.2.2.2)
  rw [decide_eq_true rfl] at hc
  exact hc
def NumsRel (w : World) (a a' : Option Addr) (F : List Nat) (i : Value) (wr : World) : Prop := ∃ k : Nat, k ≤ F.length ∧ i = .int .i64 k ∧ NumList wr a F ∧ NumList wr a' F ∧ w.grownBy wr none

set_option maxHeartbeats 12800000 in
theorem queueDoes_walk (a : Option Addr) (len cap : Nat) (L0 : List WaitP) (x : WaitP) (w : World) (hl : Lies w a len cap L0) :
    Calls Try.prog 7 #[.slice a len cap, .agg #[.int .u32 (x.1 : Int), .int .u8 (x.2.toNat : Int)]] w fun e w' => e = .returned (.bool true) ∧ Below w.heap.size w w' := by
  obtain ⟨k, hk, hk2, _, hmin⟩ := min_any len 100 (by decide)
  obtain ⟨hL0, hn0, hnc, hcm⟩ := hl
  have hlk : Lies w a k cap (L0.take k) := ⟨hL0.take k, by rw [List.length_take]; omega, by omega, hcm⟩
  generalize L0.take k = L at *
  have i0 : (0 : Int) ≤ (k : Int) := by omega
  have i1 : (k : Int) ≤ (len : Int) := by omega
  have i2 : (k : Int) ≤ (cap : Int) := by omega
  have hsm : k ≤ 100000 := by omega
  have HJ := Lib.hid (fun u (hg : w.grownBy u none) => q_join a k cap L x u (hlk.grown hg).1 hlk.2.1 hsm)
  have HRJ := Lib.hid (fun u (hg : w.grownBy u none) => r_join a k cap L x u (hlk.grown hg) hsm)
  have HV := Lib.hid (fun u (hg : w.grownBy u none) => q_leave a k cap L x u (hlk.grown hg).1 hlk.2.1 hsm)
  have HRV := Lib.hid (fun u (hg : w.grownBy u none) => r_leave a k cap L x u (hlk.grown hg) hsm)
  have HP := Lib.hid (fun u (hg : w.grownBy u none) => q_place a k cap L x u (hlk.grown hg) hsm)
  have HRP := Lib.hid (fun u (hg : w.grownBy u none) => r_place a k cap L x u (hlk.grown hg) hsm)
  have HO := Lib.hid (fun u (hg : w.grownBy u none) => q_of a k cap L x.2 u (hlk.grown hg).1 hlk.2.1 hsm)
  have HRO := Lib.hid (fun u (hg : w.grownBy u none) => r_of a k cap L x.2 u (hlk.grown hg).1 hlk.2.1 hsm)
  have HQ := Lib.hid (fun u (hg : w.grownBy u none) => q_quit a k cap L x.1 u (hlk.grown hg).1 hlk.2.1 hsm)
  have HRQ := Lib.hid (fun u (hg : w.grownBy u none) => r_quit a k cap L x.1 u (hlk.grown hg).1 hlk.2.1 hsm)
  obtain ⟨⟨J, e1⟩, h1⟩ : ∃ t, joinF L x = t := ⟨_, rfl⟩
  obtain ⟨⟨V, e2⟩, h2⟩ : ∃ t, leaveF L x = t := ⟨_, rfl⟩
  obtain ⟨⟨p1, p2⟩, h3⟩ : ∃ t, placeF L x = t := ⟨_, rfl⟩
  obtain ⟨F, h4⟩ : ∃ t, ofF L x.2 = t := ⟨_, rfl⟩
  obtain ⟨Q, h5⟩ : ∃ t, quitF L x.1 = t := ⟨_, rfl⟩
  have hF : F.length ≤ 100000 := by have := ofF_len L x.2; rw [h4, hlk.2.1] at this; omega
  rw [h1] at HJ HRJ
  rw [h2] at HV HRV
  rw [h3] at HP HRP
  rw [h4] at HO HRO
  rw [h5] at HQ HRQ
  have hbox := Box.new w 50 [.int .u32 (x.1 : Int), .int .u8 (x.2.toNat : Int)] w.heap.size rfl
  have hself := World.grownBy.refl (w.alloc (.cells #[.int .u32 (x.1 : Int), .int .u8 (x.2.toNat : Int)] 50)) none
  have XL := look_later hbox
  have HW := Lib.hid (World.grownBy_alloc w (.cells #[.int .u32 (x.1 : Int), .int .u8 (x.2.toNat : Int)] 50) none)
  clear h1 h2 h3 h4 h5 hlk hL0 hn0 hnc hcm hk2 hbox
  go_enter Try.func7, Try.ntmps7
  go_wp2_with fail
  generalize w.alloc (.cells #[.int .u32 (x.1 : Int), .int .u8 (x.2.toNat : Int)] 50) = w1 at *
  refine (HJ.out _ HW.out).mono ?_
  rintro e w2 ⟨a2, n2, c2, rfl, hl2, hg2⟩
  have HL2 := Lib.hid (fun u (h : w2.grownBy u none) => hl2.grown h)
  have HG2 := Lib.hid hg2
  clear hl2
  go_wp2_with fail
  refine (HRJ.out _ (grown_trans HW.out HG2.out)).mono ?_
  rintro e w3 ⟨a3, n3, c3, rfl, hl3, hg3⟩
  have HJJ := Lib.hid (fun u (h : w3.grownBy u none) => r_same1 (HL2.out u (grown_trans hg3 h)) (hl3.grown h))
  have hg23 := grown_trans HG2.out hg3
  have HG3 := Lib.hid hg23
  clear hl3 hg3 hg2
  go_wp2_with fail
  refine (HV.out _ (grown_trans HW.out HG3.out)).mono ?_
  rintro e w4 ⟨a4, n4, c4, rfl, hl4, hg4⟩
  have HL4 := Lib.hid (fun u (h : w4.grownBy u none) => hl4.grown h)
  have HK34 := Lib.hid hg4
  have hg24 := grown_trans HG3.out hg4
  have HG4 := Lib.hid hg24
  clear hl4 hg4 hg23
  go_wp2_with fail
  refine (HRV.out _ (grown_trans HW.out HG4.out)).mono ?_
  rintro e w5 ⟨a5, n5, c5, rfl, hl5, hg5⟩
  have HVV := Lib.hid (fun u (h : w5.grownBy u none) => r_same1 (HL4.out u (grown_trans hg5 h)) (hl5.grown h))
  have HK35 := Lib.hid (grown_trans HK34.out hg5)
  have hg25 := grown_trans HG4.out hg5
  have HG5 := Lib.hid hg25
  clear hl5 hg5 hg24
  go_wp2_with fail
  refine (HP.out _ (grown_trans HW.out HG5.out)).mono ?_
  rintro e w6 ⟨rfl, hg6⟩
  have HK56 := Lib.hid hg6
  have hg26 := grown_trans HG5.out hg6
  have HG6 := Lib.hid hg26
  clear hg6 hg25
  go_wp2_with fail
  refine (HRP.out _ (grown_trans HW.out HG6.out)).mono ?_
  rintro e w7 ⟨rfl, hg7⟩
  have HK57 := Lib.hid (grown_trans HK56.out hg7)
  have hg27 := grown_trans HG6.out hg7
  have HG7 := Lib.hid (grown_trans HW.out hg27)
  have XL7 := fun w' (h : w7.grownBy w' none) => XL w' (growT h hg27)
  have hS0 : w7.grownBy w7.drew none := grown_drew1 _
  have hS1 : w7.grownBy w7 none := World.grownBy.refl _ _
  clear hg7 hg26 hg27 hself XL
  go_wp2_with fail
  go_region_held_law (fun w' => w7.grownBy w' none) (with_reducible (first | assumption | exact keepA' (by assumption))) (first
    | (go_at_call 28; (with_reducible refine (HO.out _ (growT (by assumption : w7.grownBy _ none) HG7.out)).mono ?_); rintro r w9 ⟨a9, c9, rfl, hl9, hg9⟩; have hSa := growT hg9 (by with_reducible assumption))
    | (go_at_call 29; (with_reducible refine (HRO.out _ (growT (by assumption : w7.grownBy _ none) HG7.out)).mono ?_); rintro r w8 ⟨a8, c8, rfl, hl8, hg8⟩; have hSb := growT hg8 (by with_reducible assumption)))
  all_goals (
    have HA8 := Lib.hid hg8; have HA9 := Lib.hid hg9; have HB8 := Lib.hid hl8; have HB9 := Lib.hid hl9; have HSA := Lib.hid hSa; have HSB := Lib.hid hSb
    clear hg8 hg9 hl8 hl9 hSa hSb hS0 hS1
    go_wp2_with fail
    go_loopw [19] (fun i wr => NumsRel w7 a9 a8 F i wr) (fun i _ => F.length - (intOf i).toNat)
    case atStart =>
      first
        | (exact ⟨0, Nat.zero_le _, rfl, HB9.out.grown HA8.out, HB8.out, HSB.out⟩)
        | (exact ⟨0, Nat.zero_le _, rfl, HB9.out, HB8.out.grown HA9.out, HSA.out⟩)
    case round =>
      obtain ⟨z, hz, rfl, hx, hy, hg⟩ := hrel
      have hS0 : wr.grownBy wr.drew none := grown_drew1 _
      have hS1 : wr.grownBy wr none := World.grownBy.refl _ _
      by_cases hlt : z < F.length
      · obtain ⟨b, o, rfl, h0⟩ := hx z hlt
        obtain ⟨b', o', rfl, h0'⟩ := hy z hlt
        have d0 := cell_later h0
        have f0 := cell_later h0'
        have HX := Lib.hid hx; have HY := Lib.hid hy; have HG := Lib.hid hg
        have j0 : (0 : Int) ≤ (z : Int) := by omega
        have j1 : (z : Int) < (F.length : Int) := by omega
        clear hx hy hg h0 h0'
        go_wp2_with fail
        go_region_held_law (fun w' => wr.grownBy w' none) (with_reducible (first | assumption | exact keepA' (by assumption))) (fail)
        all_goals (
          go_wp2_with fail
          go_roundw)
        all_goals first
          | (exact ⟨z + 1, by omega, by go_num, HX.out.grown (by first | assumption | exact grown_drew1 _), HY.out.grown (by first | assumption | exact grown_drew1 _), grown_trans HG.out (by first | assumption | exact grown_drew1 _)⟩)
          | (simp [intOf]; omega)
      · obtain rfl : z = F.length := by omega
        have HG := Lib.hid hg
        have HJ9 := Lib.hid (fun u (h : wr.grownBy u none) => HJJ.out u (grown_trans HK35.out (grown_trans HK57.out (grown_trans hg h))))
        have HV9 := Lib.hid (fun u (h : wr.grownBy u none) => HVV.out u (grown_trans HK57.out (grown_trans hg h)))
        have HGW := Lib.hid (grown_trans HG7.out hg)
        have XL9 := fun w' (h : wr.grownBy w' none) => XL7 w' (growT h hg)
        clear hx hy hg XL7
        go_wp2_with fail
        go_region_held_law (fun w' => wr.grownBy w' none) (with_reducible (first | assumption | exact keepA' (by assumption))) (first
          | (go_at_call 30; (with_reducible refine (HJ9.out _ (by assumption)).mono ?_); rintro r v1 ⟨rfl, hv1⟩; have hSa := growT hv1 (by with_reducible assumption))
          | (go_at_call 30; (with_reducible refine (HV9.out _ (by assumption)).mono ?_); rintro r v2 ⟨rfl, hv2⟩; have hSb := growT hv2 (by with_reducible assumption))
          | (go_at_call 31; (with_reducible refine (HQ.out _ (growT (by assumption : wr.grownBy _ none) HGW.out)).mono ?_); rintro r v3 ⟨b3, m3, d3, rfl, hq3, hv3⟩; have hSc := growT hv3 (by with_reducible assumption))
          | (go_at_call 32; (with_reducible refine (HRQ.out _ (growT (by assumption : wr.grownBy _ none) HGW.out)).mono ?_); rintro r v4 ⟨b4, m4, d4, rfl, hq4, hv4⟩; have hSd := growT hv4 (by with_reducible assumption))
          | (go_at_call 30; (with_reducible refine (r_same1 hq3 (hq4.grown hv3)).mono ?_); rintro r v5 ⟨rfl, hv5⟩; have hSe := growT hv5 (by with_reducible assumption))
          | (go_at_call 30; (with_reducible refine (r_same1 (hq3.grown hv4) hq4).mono ?_); rintro r v5 ⟨rfl, hv5⟩; have hSe := growT hv5 (by with_reducible assumption))
          | (go_at_call 33; (with_reducible refine (queue_works _).mono ?_); rintro r v6 ⟨rfl, hv6⟩; have hSf := growT hv6 (by with_reducible assumption)))
        all_goals (
          go_wp2_with fail
          go_ret
          exact ⟨rfl, grown_below (grown_trans HGW.out (by with_reducible assumption))⟩))

end Go.Proofs.Ytnikeceeclfnpaa
