/-
  QueueFifo.
-/
import Derived.Test.YtnikeceeclfnpaaQPlain
import Derived.Test.YtnikeceeclfnpaaQArgs
namespace Go.Proofs.Ytnikeceeclfnpaa
open Go.RowKit
set_option maxRecDepth 100000

def PlayRel (w : World) (A : Nat → UInt8 × WaitP) (len : Nat) (v i : Value) (wr : World) : Prop :=
  ∃ k : Nat, k ≤ len ∧ k ≤ 60 ∧ i = .int .i64 k ∧ (∃ b m c, v = .slice b m c ∧ Lies wr b m c (playF A k)) ∧ w.grownBy wr none
def FRel (w : World) (n : Nat) (i : Value) (wr : World) : Prop := ∃ k : Nat, k ≤ n ∧ i = .int .i64 k ∧ w.grownBy wr none

set_option maxHeartbeats 12800000 in
theorem queueFifo_walk (a : Option Addr) (len cap : Nat) (A : Nat → UInt8 × WaitP) (y : UInt8 × WaitP) (w : World) (hm : len ≤ maxLen) (hA : ∀ i, i < len → QActAt w a i (A i)) :
    Calls Try.prog 8 #[.slice a len cap, .agg #[.int .u8 (y.1.toNat : Int), .int .u32 (y.2.1 : Int), .int .u8 (y.2.2.toNat : Int)]] w fun e w' => e = .returned (.bool true) ∧ Below w.heap.size w w' := by
  have HA := Lib.hid hA
  have hmx : len ≤ 9223372036854775807 := hm
  have hW := World.grownBy_alloc w (.cells #[.int .u8 (y.1.toNat : Int), .int .u32 (y.2.1 : Int), .int .u8 (y.2.2.toNat : Int)] 64) none
  have HBX := Lib.hid (Box.new w 64 [.int .u8 (y.1.toNat : Int), .int .u32 (y.2.1 : Int), .int .u8 (y.2.2.toNat : Int)] w.heap.size rfl)
  have HW := Lib.hid hW
  clear hA hm hW
  go_enter Try.func8, Try.ntmps8
  go_wp2_with fail
  generalize w.alloc (.cells #[.int .u8 (y.1.toNat : Int), .int .u32 (y.2.1 : Int), .int .u8 (y.2.2.toNat : Int)] 64) = w1 at *
  go_loopw [5, 6] (fun v i wr => PlayRel w1 A len v i wr) (fun _ i _ => len - (intOf i).toNat)
  case atStart => exact ⟨0, Nat.zero_le _, Nat.zero_le _, rfl, ⟨none, 0, 0, rfl, WaitList.nil _ _, rfl, Nat.le_refl _, by simp [maxLen]⟩, World.grownBy.refl _ _⟩
  case round =>
    obtain ⟨k, hk, hk60, rfl, ⟨b, m, c, rfl, hl⟩, hg⟩ := hrel
    have HL := Lib.hid hl; have HG := Lib.hid hg
    have hmk : m ≤ 60 := by have := playF_len A k; have := hl.2.1; omega
    clear hl hg
    have i0 : (0 : Int) ≤ (k : Int) := by omega
    by_cases hlt : k < len ∧ k < 60
    · obtain ⟨h1, h2⟩ := hlt
      obtain ⟨⟨kd, x⟩, hx⟩ : ∃ e, A k = e := ⟨_, rfl⟩
      obtain ⟨b', o', rfl, d0, d1, d2⟩ := HA.out k h1
      rw [hx] at d0 d1 d2
      have d0 := grown_cell (grown_trans HW.out HG.out) d0
      have d1 := grown_cell (grown_trans HW.out HG.out) d1
      have d2 := grown_cell (grown_trans HW.out HG.out) d2
      simp only at d0 d1 d2
      have HD := Lib.hid (law_do b m c (playF A k) kd x wr HL.out.1 HL.out.2.1 (by omega))
      have HX := Lib.hid hx
      have i1 : (k : Int) < (len : Int) := by omega
      have i2 : (k : Int) < 60 := by omega
      clear hx
      go_wp2_with fail
      refine HD.out.mono ?_
      rintro r w2 ⟨b2, m2, c2, rfl, hl2, hg2⟩
      have HL2 := Lib.hid (show Lies w2 b2 m2 c2 (playF A (k + 1)) by show Lies w2 b2 m2 c2 (doF (playF A k) (A k).1 (A k).2); rw [HX.out]; exact hl2)
      have HG2 := Lib.hid (grown_trans HG.out hg2)
      clear hl2 hg2 d0 d1 d2
      go_wp2_with fail
      go_roundw
      all_goals first
        | exact ⟨k + 1, by omega, by omega, by go_num, ⟨_, _, _, rfl, HL2.out⟩, HG2.out⟩
        | (simp [intOf]; omega)
    · have hN := playF_nodup A k
      obtain ⟨L, hLL⟩ : ∃ L, playF A k = L := ⟨_, rfl⟩
      rw [hLL] at hN HL
      have HN := Lib.hid hN
      obtain ⟨M, hM⟩ : ∃ M, doF L y.1 y.2 = M := ⟨_, rfl⟩
      have HD := Lib.hid (law_do b m c L y.1 y.2 wr HL.out.1 HL.out.2.1 (by omega))
      rw [hM] at HD
      have hMl : M.length ≤ 61 := by have := doF_len L y.1 y.2; rw [hM, HL.out.2.1] at this; omega
      have HF := Lib.hid (fun i j (hi : i < L.length) (hj : j < i) => fifo_law hN y.1 y.2 hi hj)
      rw [hM] at HF
      have XL := (HBX.out.grown HG.out).look
      have hex : ¬ (k : Int) < (len : Int) ∨ ((k : Int) < (len : Int) ∧ ¬ (k : Int) < 60) := by omega
      clear hN hLL hlt hM
      rcases hex with hex | ⟨hex, hex2⟩
      all_goals (
        go_wp2_with fail
        refine HD.out.mono ?_
        rintro r w2 ⟨b2, m2, c2, rfl, hl2, hg2⟩
        have HL2 := Lib.hid (HL.out.grown hg2); have HM2 := Lib.hid hl2
        have HG2 := Lib.hid (grown_trans HW.out (grown_trans HG.out hg2))
        have hm2 : m2 ≤ 61 := by have := hl2.2.1; omega
        clear hl2 hg2 XL
        go_wp2_with fail
        go_loopw [8] (fun i wr => FRel w2 m i wr) (fun i _ => m - (intOf i).toNat)
        case atStart => exact ⟨0, Nat.zero_le _, rfl, World.grownBy.refl _ _⟩
        case round =>
          obtain ⟨w9, hw9⟩ : ∃ w9, w9 = wr := ⟨_, rfl⟩
          subst hw9
          obtain ⟨i, hi, rfl, hg9⟩ := hrel
          have HG9 := Lib.hid hg9
          clear hg9
          by_cases him : i < m
          · have j0 : (0 : Int) ≤ (i : Int) := by omega
            have j1 : (i : Int) < (m : Int) := by omega
            go_wp2_with fail
            go_loopw [9] (fun j wr => FRel w9 i j wr) (fun j _ => i - (intOf j).toNat)
            case atStart => exact ⟨0, Nat.zero_le _, rfl, World.grownBy.refl _ _⟩
            case round =>
              obtain ⟨j, hj, rfl, hgj⟩ := hrel
              have HGJ := Lib.hid (grown_trans HG9.out hgj); have HGI := Lib.hid hgj
              clear hgj
              have k0 : (0 : Int) ≤ (j : Int) := by omega
              by_cases hji : j < i
              · have hil : i < L.length := by rw [HL2.out.2.1]; exact him
                have hjl : j < L.length := by omega
                obtain ⟨hne, hlaw⟩ := HF.out i j hil hji
                obtain ⟨bb, oo, hb, e0, e1⟩ := HL2.out.1 i hil
                obtain ⟨bb', oo', hb', f0, f1⟩ := HL2.out.1 j hjl
                subst hb
                cases hb'
                obtain ⟨u, hu⟩ : ∃ e, L[i] = e := ⟨_, rfl⟩
                obtain ⟨v, hv⟩ : ∃ e, L[j] = e := ⟨_, rfl⟩
                rw [hu] at e0 e1 hne hlaw
                rw [hv] at f0 f1 hne hlaw
                have e0 := cell_later (grown_cell HGJ.out e0)
                have e1 := cell_later (grown_cell HGJ.out e1)
                have f0 := cell_later (grown_cell HGJ.out f0)
                have f1 := cell_later (grown_cell HGJ.out f1)
                have hp1 := q_place b2 m2 c2 M u wr (HM2.out.grown HGJ.out) (by omega)
                have hp2 := fun z (hg : wr.grownBy z none) => q_place b2 m2 c2 M v z (HM2.out.grown (grown_trans HGJ.out hg)) (by omega)
                obtain ⟨⟨x1, b1⟩, h1⟩ : ∃ t, placeF M u = t := ⟨_, rfl⟩
                obtain ⟨⟨y1, b3⟩, h2⟩ : ∃ t, placeF M v = t := ⟨_, rfl⟩
                rw [h1] at hp1 hlaw
                rw [h2] at hp2 hlaw
                simp only at hp1 hp2 hlaw
                have HP1 := Lib.hid hp1; have HP2 := Lib.hid hp2; have HLAW := Lib.hid hlaw; have HNE := Lib.hid hne
                have hS1 : wr.grownBy wr none := World.grownBy.refl _ _
                have k1 : (j : Int) < (i : Int) := by omega
                have k2 : (j : Int) < (m : Int) := by omega
                clear hp1 hp2 hlaw hne h1 h2 hu hv
                go_wp2_with fail
                refine HP1.out.mono ?_
                rintro r w3 ⟨rfl, hg3⟩
                have HG3 := Lib.hid hg3
                go_wp2_with fail
                refine (HP2.out _ HG3.out).mono ?_
                rintro r w4 ⟨rfl, hg4⟩
                have hg34 := grown_trans hg3 hg4
                have HGK := Lib.hid (grown_trans HGI.out hg34)
                have E0 := fun w' (h : w4.grownBy w' none) => e0 w' (growT h hg34)
                have E1 := fun w' (h : w4.grownBy w' none) => e1 w' (growT h hg34)
                have F0 := fun w' (h : w4.grownBy w' none) => f0 w' (growT h hg34)
                have F1 := fun w' (h : w4.grownBy w' none) => f1 w' (growT h hg34)
                have hT0 : ∀ q, w4.grownBy (w4.drewN q) none := fun q => grown_drewN _ _
                have hT1 : w4.grownBy w4 none := World.grownBy.refl _ _
                clear hg3 hg4 hg34 e0 e1 f0 f1 hS1
                have hpart : b1 = false ∨ (b1 = true ∧ b3 = false) ∨ (b1 = true ∧ b3 = true ∧ ((u.2.toNat : Int) == (v.2.toNat : Int)) = false) ∨ (b1 = true ∧ b3 = true ∧ ((u.2.toNat : Int) == (v.2.toNat : Int)) = true ∧ ¬ (x1 : Int) ≤ (y1 : Int)) := by
                  cases b1
                  · exact .inl rfl
                  · cases b3
                    · exact .inr (.inl ⟨rfl, rfl⟩)
                    · refine .inr (.inr ?_)
                      by_cases hq : u.2 = v.2
                      · have h9 : y1 < x1 := HLAW.out rfl rfl hq
                        exact .inr ⟨rfl, rfl, by rw [hq]; simp, by omega⟩
                      · exact .inl ⟨rfl, rfl, by rw [u8_eq, decide_eq_false hq]⟩
                have hfalse := wait_ne HNE.out
                rcases hpart with rfl | ⟨rfl, rfl⟩ | ⟨rfl, rfl, hq⟩ | ⟨rfl, rfl, hq, hge⟩
                all_goals (
                  rcases hfalse with hf | ⟨hf, hf2⟩
                  all_goals try exact absurd (hq.symm.trans hf2) (by decide)
                  all_goals (
                    go_wp2_with fail
                    go_quiet (fail)
                    all_goals (
                      go_wp2_with fail
                      go_roundw)
                    all_goals first
                      | (exact ⟨j + 1, by omega, by go_num, grown_trans HGK.out (grown_drewN _ _)⟩)
                      | (simp [intOf]; omega)))
              · obtain rfl : j = i := by omega
                go_wp2_with fail
                go_roundw
                all_goals first
                  | (exact ⟨j + 1, by omega, by go_num, HGJ.out⟩)
                  | (simp [intOf]; omega)
          · obtain rfl : i = m := by omega
            go_wp2_with fail
            refine (queue_works _).mono ?_
            rintro r w3 ⟨rfl, hg3⟩
            have HG3 := Lib.hid (grown_trans HG2.out (grown_trans HG9.out hg3))
            clear hg3
            go_wp2_with fail
            go_ret
            exact ⟨rfl, grown_below HG3.out⟩)

end Go.Proofs.Ytnikeceeclfnpaa
