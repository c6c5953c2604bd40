/-
  QueueShort.
-/
import Derived.Test.YtnikeceeclfnpaaQShortP
import Derived.Test.YtnikeceeclfnpaaQFifo
namespace Go.Proofs.Ytnikeceeclfnpaa
open Go.RowKit
set_option maxRecDepth 100000

set_option maxHeartbeats 12800000 in
theorem queueShort_walk (a : Option Addr) (len cap : Nat) (A : Nat → UInt8 × WaitP) (x v : WaitP) (w : World) (hm : len ≤ maxLen) (hA : ∀ i, i < len → QActAt w a i (A i)) :
    Calls Try.prog 9 #[.slice a len cap, .agg #[.int .u32 (x.1 : Int), .int .u8 (x.2.toNat : Int)], .agg #[.int .u32 (v.1 : Int), .int .u8 (v.2.toNat : Int)]] w fun e w' => e = .returned (.bool true) ∧ Below w.heap.size w w' := by
  have HA := Lib.hid hA
  have hmx : len ≤ 9223372036854775807 := hm
  have HBX := Lib.hid ((Box.new w 50 [.int .u32 (x.1 : Int), .int .u8 (x.2.toNat : Int)] w.heap.size rfl).alloc (.cells #[.int .u32 (v.1 : Int), .int .u8 (v.2.toNat : Int)] 50))
  have HBV := Lib.hid (Box.new (w.alloc (.cells #[.int .u32 (x.1 : Int), .int .u8 (x.2.toNat : Int)] 50)) 50 [.int .u32 (v.1 : Int), .int .u8 (v.2.toNat : Int)] (w.heap.size + 1) (by simp))
  have HW := Lib.hid (growA _ (.cells #[.int .u32 (v.1 : Int), .int .u8 (v.2.toNat : Int)] 50) (World.grownBy_alloc w (.cells #[.int .u32 (x.1 : Int), .int .u8 (x.2.toNat : Int)] 50) none))
  clear hA hm
  go_enter Try.func9, Try.ntmps9
  go_wp2_with fail
  generalize (w.alloc (.cells #[.int .u32 (x.1 : Int), .int .u8 (x.2.toNat : Int)] 50)).alloc (.cells #[.int .u32 (v.1 : Int), .int .u8 (v.2.toNat : Int)] 50) = w1 at *
  go_loopw [7, 8] (fun v i wr => PlayRel w1 A len v i wr) (fun _ i _ => len - (intOf i).toNat)
  case atStart => exact ⟨0, Nat.zero_le _, Nat.zero_le _, rfl, ⟨none, 0, 0, rfl, WaitList.nil _ _, rfl, Nat.le_refl _, by simp [maxLen]⟩, World.grownBy.refl _ _⟩
  case round =>
    obtain ⟨k, hk, hk60, rfl, ⟨b, m, c, rfl, hl⟩, hg⟩ := hrel
    have HL := Lib.hid hl; have HG := Lib.hid hg
    have hmk : m ≤ 60 := by have := playF_len A k; have := hl.2.1; omega
    clear hl hg
    have i0 : (0 : Int) ≤ (k : Int) := by omega
    by_cases hlt : k < len ∧ k < 60
    · obtain ⟨h1, h2⟩ := hlt
      obtain ⟨⟨kd, z⟩, hx⟩ : ∃ e, A k = e := ⟨_, rfl⟩
      obtain ⟨b', o', rfl, d0, d1, d2⟩ := HA.out k h1
      rw [hx] at d0 d1 d2
      have d0 := grown_cell (grown_trans HW.out HG.out) d0
      have d1 := grown_cell (grown_trans HW.out HG.out) d1
      have d2 := grown_cell (grown_trans HW.out HG.out) d2
      simp only at d0 d1 d2
      have HD := Lib.hid (law_do b m c (playF A k) kd z wr HL.out.1 HL.out.2.1 (by omega))
      have HX := Lib.hid hx
      have i1 : (k : Int) < (len : Int) := by omega
      have i2 : (k : Int) < 60 := by omega
      clear hx
      go_wp2_with fail
      refine HD.out.mono ?_
      rintro r w2 ⟨b2, m2, c2, rfl, hl2, hg2⟩
      have HL2 := Lib.hid (show Lies w2 b2 m2 c2 (playF A (k + 1)) by show Lies w2 b2 m2 c2 (doF (playF A k) (A k).1 (A k).2); rw [HX.out]; exact hl2)
      have HG2 := Lib.hid (grown_trans HG.out hg2)
      clear hl2 hg2 d0 d1 d2
      go_wp2_with fail
      go_roundw
      all_goals first
        | exact ⟨k + 1, by omega, by omega, by go_num, ⟨_, _, _, rfl, HL2.out⟩, HG2.out⟩
        | (simp [intOf]; omega)
    · have hN := playF_nodup A k
      obtain ⟨L, hLL⟩ : ∃ L, playF A k = L := ⟨_, rfl⟩
      rw [hLL] at hN HL
      have hlen := HL.out.2.1
      have HP1 := Lib.hid (q_place b m c L x wr HL.out (by omega))
      have HP2 := Lib.hid (fun z (hg : wr.grownBy z none) => q_place b m c L v z (HL.out.grown hg) (by omega))
      have HLV := Lib.hid (fun z (hg : wr.grownBy z none) => q_leave b m c L v z (HL.out.grown hg).1 hlen (by omega))
      have hS := fun (hx : x ∈ L) (hne : v ≠ x) => short_law hN hx hne
      have hE := fun (h : x ∉ L ∨ v = x) => leave_none hN h
      have hmem : (placeF L x).2 = decide (x ∈ L) := by
        by_cases h : x ∈ L
        · rw [placeF_mem h, decide_eq_true h]
        · rw [placeF_not h, decide_eq_false h]
      have hn60 : (placeF L x).1 ≤ 60 := by
        unfold placeF
        split
        · have h1 := ofF_len (L.take (L.idxOf x)) x.2
          have h2 := List.length_take_le (L.idxOf x) L
          have h3 := List.length_take_le' (L.idxOf x) L
          simp only
          omega
        · simp
      have hll : (leaveF L v).1.length ≤ 60 := by
        rw [leaveF_eq]
        split
        · have := List.length_eraseIdx_le L (L.idxOf v); omega
        · omega
      obtain ⟨⟨F, ef⟩, hF⟩ : ∃ t, leaveF L v = t := ⟨_, rfl⟩
      obtain ⟨⟨n1, ok⟩, h1⟩ : ∃ t, placeF L x = t := ⟨_, rfl⟩
      obtain ⟨⟨m1, is⟩, h2⟩ : ∃ t, placeF L v = t := ⟨_, rfl⟩
      rw [h1] at hmem HP1 hn60
      rw [h2] at HP2
      rw [hF] at HLV hll
      rw [hF, h1, h2] at hS
      rw [hF] at hE
      obtain ⟨⟨k1, still⟩, h3⟩ : ∃ t, placeF F x = t := ⟨_, rfl⟩
      simp only at hS hE hmem hll hn60 HP1 HP2
      have hst : x ∉ F → still = false := fun h => by rw [placeF_not h] at h3; exact (congrArg Prod.snd h3).symm
      rw [h3] at hS
      simp only at hS
      have HPF := Lib.hid (fun z b' m' c' (hl : Lies z b' m' c' F) => q_place b' m' c' F x z hl (by have := hl.2.1; omega))
      rw [h3] at HPF
      have HS := Lib.hid hS; have HE := Lib.hid hE; have HME := Lib.hid hmem; have HST := Lib.hid hst
      have XL := look_later (HBX.out.grown HG.out)
      have VL := look_later (HBV.out.grown HG.out)
      have hself := World.grownBy.refl wr none
      have hex : ¬ (k : Int) < (len : Int) ∨ ((k : Int) < (len : Int) ∧ ¬ (k : Int) < 60) := by omega
      clear hN hLL hlt hS hE hmem hst h1 h2 h3 hF hlen hll
      rcases hex with hex | ⟨hex, hex2⟩
      all_goals (
        go_wp2_with fail
        refine HP1.out.mono ?_
        rintro r w2 ⟨rfl, hg2⟩
        have HG2 := Lib.hid hg2
        go_wp2_with fail
        refine (HP2.out _ HG2.out).mono ?_
        rintro r w3 ⟨rfl, hg3⟩
        have hg23 := grown_trans hg2 hg3
        have HG3 := Lib.hid hg23
        clear hg2 hg3
        go_wp2_with fail
        refine (HLV.out _ HG3.out).mono ?_
        rintro r w4 ⟨b4, m4, c4, rfl, hl4, hg4⟩
        have HP4 := Lib.hid (HPF.out _ _ _ _ hl4)
        have hg24 := grown_trans HG3.out hg4
        have HG4 := Lib.hid hg24
        clear hl4 hg4 hg23
        go_wp2_with fail
        refine HP4.out.mono ?_
        rintro r w5 ⟨rfl, hg5⟩
        have hg25 := grown_trans HG4.out hg5
        have HG5 := Lib.hid (grown_trans HW.out (grown_trans HG.out hg25))
        clear hg24 hg5 hself
        have XL5 := fun z (h : w5.grownBy z none) => XL z (growT h hg25)
        have VL5 := fun z (h : w5.grownBy z none) => VL z (growT h hg25)
        have hT1 : w5.grownBy w5 none := World.grownBy.refl _ _
        clear hg25 XL VL
        have hme := HME.out
        by_cases hx : x ∈ L ∧ v ≠ x
        · obtain ⟨hx, hne⟩ := hx
          obtain ⟨hs1, hs2⟩ := HS.out hx hne
          rw [decide_eq_true hx] at hme
          subst hme hs1
          have hf := wait_ne hne
          have hpart : is = false ∨ (is = true ∧ ((v.2.toNat : Int) == (x.2.toNat : Int)) = false) ∨ (is = true ∧ ((v.2.toNat : Int) == (x.2.toNat : Int)) = true ∧ ¬ m1 < n1) ∨ (is = true ∧ ((v.2.toNat : Int) == (x.2.toNat : Int)) = true ∧ m1 < n1) := by
            rw [u8_eq]
            cases is
            · exact .inl rfl
            · by_cases hq : v.2 = x.2
              · rw [decide_eq_true hq]
                by_cases hlt : m1 < n1
                · exact .inr (.inr (.inr ⟨rfl, rfl, hlt⟩))
                · exact .inr (.inr (.inl ⟨rfl, rfl, hlt⟩))
              · rw [decide_eq_false hq]
                exact .inr (.inl ⟨rfl, rfl⟩)
          have hk1 : (is = true ∧ ((v.2.toNat : Int) == (x.2.toNat : Int)) = true ∧ m1 < n1 ∧ n1 = k1 + 1) ∨ (¬ (is = true ∧ ((v.2.toNat : Int) == (x.2.toNat : Int)) = true ∧ m1 < n1) ∧ n1 = k1) := by
            rw [u8_eq, decide_eq_true_eq]
            by_cases hc : is = true ∧ v.2 = x.2 ∧ m1 < n1
            · rw [if_pos hc] at hs2
              exact .inl ⟨hc.1, hc.2.1, hc.2.2, hs2.symm⟩
            · rw [if_neg hc] at hs2
              exact .inr ⟨hc, hs2.symm⟩
          clear hs2 hx hne
          rcases hk1 with ⟨rfl, hq, hlt, rfl⟩ | ⟨hno, rfl⟩
          · have hlt2 : (m1 : Int) < (k1 : Int) + 1 := by omega
            have hk60 : k1 ≤ 59 := by omega
            have j0 : (0 : Int) ≤ (k1 : Int) := by omega
            clear hpart
            rcases hf with hf | ⟨hf, hf2⟩
            all_goals try exact absurd (hq.symm.trans hf2) (by decide)
            all_goals (
              go_wp2_with fail
              refine (queue_works _).mono ?_
              rintro r w6 ⟨rfl, hg6⟩
              have HG6 := Lib.hid (grown_trans HG5.out hg6)
              clear hg6
              go_wp2_with fail
              go_ret
              exact ⟨rfl, grown_below HG6.out⟩)
          · have hp3 : is = false ∨ (is = true ∧ ((v.2.toNat : Int) == (x.2.toNat : Int)) = false) ∨ (is = true ∧ ((v.2.toNat : Int) == (x.2.toNat : Int)) = true ∧ ¬ (m1 : Int) < (n1 : Int)) := by
              rcases hpart with h | h | ⟨h1, h2, h3⟩ | h
              · exact .inl h
              · exact .inr (.inl h)
              · exact .inr (.inr ⟨h1, h2, by omega⟩)
              · exact absurd h hno
            clear hpart hno
            rcases hp3 with rfl | ⟨rfl, hq⟩ | ⟨rfl, hq, hge⟩
            all_goals (
              rcases hf with hf | ⟨hf, hf2⟩
              all_goals try exact absurd (hq.symm.trans hf2) (by decide)
              all_goals (
                go_wp2_with fail
                refine (queue_works _).mono ?_
                rintro r w6 ⟨rfl, hg6⟩
                have HG6 := Lib.hid (grown_trans HG5.out hg6)
                clear hg6
                go_wp2_with fail
                go_ret
                exact ⟨rfl, grown_below HG6.out⟩))
        · have hor : x ∉ L ∨ v = x := by
            by_cases h : x ∈ L
            · exact .inr (Decidable.of_not_not fun h2 => hx ⟨h, h2⟩)
            · exact .inl h
          have hst := HST.out (HE.out hor)
          subst hst
          by_cases hxl : x ∈ L
          · rw [decide_eq_true hxl] at hme
            subst hme
            have hvx : v = x := Decidable.of_not_not fun h2 => hx ⟨hxl, h2⟩
            subst hvx
            clear hx hor hxl
            go_wp2_with fail
            refine (queue_works _).mono ?_
            rintro r w6 ⟨rfl, hg6⟩
            have HG6 := Lib.hid (grown_trans HG5.out hg6)
            clear hg6
            go_wp2_with fail
            go_ret
            exact ⟨rfl, grown_below HG6.out⟩
          · rw [decide_eq_false hxl] at hme
            subst hme
            clear hx hor hxl
            go_wp2_with fail
            refine (queue_works _).mono ?_
            rintro r w6 ⟨rfl, hg6⟩
            have HG6 := Lib.hid (grown_trans HG5.out hg6)
            clear hg6
            go_wp2_with fail
            go_ret
            exact ⟨rfl, grown_below HG6.out⟩)

end Go.Proofs.Ytnikeceeclfnpaa
