/-
  The walk through the statement on bursts.
-/
import Derived.Test.YtnikeceeclfnpaaDoorCrcLawC
import Derived.Test.YtnikeceeclfnpaaDoorCrcBurst
namespace Go.Proofs.YtnikeceeclfnpaaDoor
open Go.RowKit

theorem pow8 : ∀ r : Fin 8, ((2 : Int) ^ r.val % 256) = (((1 : UInt8) <<< UInt8.ofNat r.val).toNat : Int) := by decide
theorem turn_byte (x : UInt8) (K : Nat) : bits .xor .u8 (x.toNat : Int) ((2 : Int) ^ (K % 8) % 256) = ((x ^^^ (1 <<< UInt8.ofNat (K % 8))).toNat : Int) := by
  have h : K % 8 < 8 := by omega
  have := pow8 ⟨K % 8, h⟩
  simp only at this
  rw [this, bits8_nat]

set_option maxRecDepth 100000 in
set_option maxHeartbeats 800000 in
theorem bursts_walk (a : Option Addr) (len cap : Nat) (l : List UInt8) (at0 bits0 : Int) (w : World) (hb : InB w a len cap l) (ha : 0 ≤ at0 ∧ at0 ≤ 65535) (hT : Tab w) (hg : 0 < w.heap.size) :
    Calls Tryd.prog 6 #[.slice a len cap, .int .u16 at0, .int .u32 bits0] w fun e w' => e = .returned (.bool true) ∧ Below w.heap.size w w' := by
  have HT := Lib.hid hT; clear hT
  obtain ⟨n, hnl, hnk, _, hmin⟩ := min_any len 1000 (by omega)
  obtain ⟨hn, hr, hnc⟩ := hb.cut hnl
  have h1 := hb.cap_le
  have h2 := hb.max; unfold maxLen at h2
  have hnil := Lib.hid hb.nil
  clear hb
  generalize l.take n = m at *
  have HN := Lib.hid hn; have HR := Lib.hid hr
  clear hn hr
  have HO := Lib.hid (OwnB.made w #[] 0 (by simp [maxLen]) rfl)
  have i0 : (0 : Int) ≤ (n : Int) := by omega
  have i1 : (n : Int) ≤ (cap : Int) := by omega
  go_enter Tryd.func6, Tryd.ntmps6
  go_wp2_with (refine wpList_append_bytes (o := ⟨some 17, _, _, _, _, _⟩) rfl _ _ rfl w.heap.size _ [] rfl HO.out a _ cap m rfl ((HR.out).alloc _) HN.out hnil.out (by simp; omega) (by simp) ?_)
  clear hmin
  intro v1 w1 ho1 hg1
  have hb1 : Below w.heap.size w w1 := ((Below.refl _ _).alloc (Nat.le_refl _) _).grown hg1 (by simp) (fun k hk => by simp [Value.ownBlock] at hk; omega)
  have hs1 := hb1.size
  obtain ⟨a1, n1, c1, rfl, hn1⟩ := ho1.len
  obtain rfl : n1 = n := by rw [← hn1]; exact HN.out
  have HO1 := Lib.hid ho1
  have HT1 : Hid (Tab w1) := HT.out.below hb1 hg
  have HB1 := Lib.hid hb1
  clear ho1 hg1 hn1 HO hnil HR hb1
  by_cases hz : n1 = 0
  · have hz' : ((n1 : Int) == 0) = true := by simp [hz]
    clear hz
    go_wp2_with fail
    refine (crc_works _ HT1.out (by omega)).mono ?_
    rintro e w2 ⟨rfl, hb2⟩
    go_wp2_with fail
    go_ret
    exact ⟨rfl, HB1.out.trans (hb2.mono hs1)⟩
  · have hz' : ((n1 : Int) == 0) = false := by simp [hz]
    by_cases hzb : bits0 = 0
    · have hzb' : (bits0 == 0) = true := by simp [hzb]
      clear hzb
      go_wp2_with fail
      refine (crc_works _ HT1.out (by omega)).mono ?_
      rintro e w2 ⟨rfl, hb2⟩
      go_wp2_with fail
      go_ret
      exact ⟨rfl, HB1.out.trans (hb2.mono hs1)⟩
    · have hzb' : (bits0 == 0) = false := by simp [hzb]
      clear hzb
      go_wp2_with fail
      refine (sum_any _ _ _ m _ HN.out (by omega) HT1.out (RB.of_own HO1.out)).mono ?_
      rintro e w2 ⟨rfl, rfl⟩
      go_wp2_with fail
      have hn0 : 0 < n1 := by omega
      obtain ⟨k0, hk0⟩ : ∃ k0 : Nat, at0 % (8 * (n1 : Int)) = (k0 : Int) := ⟨(at0 % (8 * (n1 : Int))).toNat, by rw [Int.toNat_of_nonneg (Int.emod_nonneg _ (by omega))]⟩
      have hk1 : k0 < 8 * n1 := by have := Int.emod_lt_of_pos at0 (show (0 : Int) < 8 * (n1 : Int) by omega); omega
      go_loopw [8, 9] (fun t i wr => ∃ (ti ii : Nat) (c : List UInt8) (E : R), ii ≤ 32 ∧ i = .int .i64 ii ∧ t = .int .i64 ti ∧ OwnB wr w.heap.size (.slice a1 n1 c1) c ∧ Turned m k0 ii c ti E ∧ Below w.heap.size w wr) (fun _ i _ => 32 - (intOf i).toNat)
      case atStart => exact ⟨0, 0, m, 0, by omega, rfl, rfl, HO1.out, Turned.start _ _, HB1.out⟩
      case round =>
        obtain ⟨t, i, c, E, hi, rfl, rfl, hown, hturn, hbel⟩ := hrel
        have HO2 := Lib.hid hown; have HU := Lib.hid hturn
        have ht32 := hturn.few
        clear hown hturn
        by_cases hlt : i < 32
        · by_cases htest : bits .and .u32 (bits0 / 2 ^ i) 1 = 1
          · by_cases hkn : k0 + i < 8 * n1
            · have hcl := HU.out.len
              obtain ⟨K, hK⟩ : ∃ K : Nat, k0 + i = K := ⟨_, rfl⟩
              have hKi : (k0 : Int) + (i : Int) = (K : Int) := by omega
              have hj : K / 8 < c.length := by rw [hcl, HN.out]; omega
              obtain ⟨g, rfl, hcell, hfz, hBg, hset⟩ := HO2.out.at (K / 8) hj
              have HS := Lib.hid hset
              have HK := Lib.hid hK; have HCL := Lib.hid hcl
              clear hset hK hcl
              generalize hx : c[K / 8] = x at *
              have HX := Lib.hid hx; clear hx
              unfold bval at hcell
              have q0 : (0 : Int) ≤ (K : Int) / 8 := by omega
              have q1 : (K : Int) / 8 < (n1 : Int) := by have := HK.out; omega
              go_wp2_with fail
              go_roundw
              case rel =>
                rw [turn_byte]
                have ht : turn c K = c.set (K / 8) (x ^^^ (1 <<< UInt8.ofNat (K % 8))) := by
                  unfold turn
                  rw [← HX.out, List.getD_eq_getElem?_getD, List.getElem?_eq_getElem hj]
                  rfl
                exact ⟨t + 1, i + 1, turn c K, E ^^^ BitVec.twoPow 32 i, by omega, by go_num, by go_num, by rw [ht]; exact HS.out _, by rw [← HK.out]; exact HU.out.turn hlt (by rw [HN.out]; exact hkn), hbel.setCell hBg _⟩
              case measure => simp [intOf]; omega
            · have hkn' : 8 * (n1 : Int) ≤ (k0 : Int) + (i : Int) := by omega
              go_wp2_with fail
              go_roundw
              case rel => exact ⟨t, i + 1, c, E, by omega, by go_num, rfl, HO2.out, HU.out.skip, hbel⟩
              case measure => simp [intOf]; omega
          · go_wp2_with fail
            go_roundw
            case rel => exact ⟨t, i + 1, c, E, by omega, by go_num, rfl, HO2.out, HU.out.skip, hbel⟩
            case measure => simp [intOf]; omega
        · have hl : c.length = n1 := by rw [HU.out.len]; exact HN.out
          have HL := Lib.hid hl; clear hl
          have HT2 : Hid (Tab wr) := HT.out.below hbel hg
          go_wp2_with fail
          refine (sum_any _ _ _ c _ HL.out (by omega) HT2.out (RB.of_own HO2.out)).mono ?_
          rintro e w3 ⟨rfl, rfl⟩
          have hcmp : (sumF c == sumF m) = ((t : Int) == 0) := by
            rw [Bool.eq_iff_iff]
            simp only [beq_iff_eq]
            rw [HU.out.sums]
            omega
          go_wp2_with fail
          clear hcmp
          refine (crc_works _ HT2.out (by have := hbel.size; omega)).mono ?_
          rintro e w3 ⟨rfl, hb3⟩
          go_wp2_with fail
          go_ret
          exact ⟨rfl, hbel.trans (hb3.mono hbel.size)⟩
end Go.Proofs.YtnikeceeclfnpaaDoor
