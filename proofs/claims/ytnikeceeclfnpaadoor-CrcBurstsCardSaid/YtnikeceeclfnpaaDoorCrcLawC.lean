/-
  The walk through the statement on three texts.
-/
import Derived.Test.YtnikeceeclfnpaaDoorCrcLawB
import Derived.StillTailTactics
namespace Go.Proofs.YtnikeceeclfnpaaDoor
open Go.RowKit

theorem bits8_nat (a b : UInt8) : bits .xor .u8 (a.toNat : Int) (b.toNat : Int) = ((a ^^^ b).toNat : Int) := by
  rw [u8_xor_nat _ _ a.toNat_lt b.toNat_lt, UInt8.toNat_xor]

/-- the exclusive or of three texts, up to k -/
def x3 (l0 l1 l2 : List UInt8) (k : Nat) : List UInt8 := zipX (zipX (l0.take k) (l1.take k)) (l2.take k)
theorem x3_snoc (l0 l1 l2 : List UInt8) (k : Nat) (h0 : k < l0.length) (h1 : k < l1.length) (h2 : k < l2.length) :
    x3 l0 l1 l2 (k + 1) = x3 l0 l1 l2 k ++ [(l0[k] ^^^ l1[k]) ^^^ l2[k]] := by
  unfold x3 zipX
  rw [take_snoc' l0 k h0, take_snoc' l1 k h1, take_snoc' l2 k h2]
  rw [List.zipWith_append (by simp; omega), List.zipWith_append (by simp; omega)]
  simp

theorem sumF_three (a b c : List UInt8) (h : a.length = b.length) (k : b.length = c.length) :
    bits .xor .u32 (bits .xor .u32 (sumF a) (sumF b)) (sumF c) = sumF (zipX (zipX a b) c) := by
  rw [sumF_bv, sumF_bv, sumF_bv, sumF_bv, bits_xor, bits_xor, sumR_three a b c h k]

set_option maxHeartbeats 800000 in
theorem three_walk (a0 : Option Addr) (len0 cap0 : Nat) (l0 : List UInt8) (a1 : Option Addr) (len1 cap1 : Nat) (l1 : List UInt8) (a2 : Option Addr) (len2 cap2 : Nat) (l2 : List UInt8) (w : World)
    (hb0 : InB w a0 len0 cap0 l0) (hb1 : InB w a1 len1 cap1 l1) (hb2 : InB w a2 len2 cap2 l2) (hT : Tab w) (hg : 0 < w.heap.size) :
    Calls Tryd.prog 5 #[.slice a0 len0 cap0, .slice a1 len1 cap1, .slice a2 len2 cap2] w fun e w' => e = .returned (.bool true) ∧ Below w.heap.size w w' := by
  have HT := Lib.hid hT; clear hT
  have H0 := Lib.hid hb0; have H1 := Lib.hid hb1; have H2 := Lib.hid hb2
  have h01 := hb0.cap_le; have h02 := hb0.max; unfold maxLen at h02
  have h11 := hb1.cap_le; have h12 := hb1.max; unfold maxLen at h12
  have h21 := hb2.cap_le; have h22 := hb2.max; unfold maxLen at h22
  clear hb0 hb1 hb2
  obtain ⟨n, hn0, hn1, hn2, hnk, hmin⟩ : ∃ n : Nat, n ≤ len0 ∧ n ≤ len1 ∧ n ≤ len2 ∧ n ≤ 500 ∧ ∀ u : World, (Builtin.min_ #[3, 3, 3, 3] 3 #[.int .i64 len0, .int .i64 len1, .int .i64 len2, .int .i64 500]).run Tryd.prog u = .ok (.int .i64 (n : Nat)) u := by
    refine ⟨min (min (min len0 len1) len2) 500, by omega, by omega, by omega, by omega, fun u => ?_⟩
    simp only [Builtin.min_, List.foldlM_cons, List.foldlM_nil, Builtin.min2, Sem.run_bind, Sem.run_pure, Result.andThen_ok]
    congr 2
    split <;> split <;> split <;> omega
  have e0 := H0.out.len_eq; have e1 := H1.out.len_eq; have e2 := H2.out.len_eq
  have HE0 := Lib.hid e0; have HE1 := Lib.hid e1; have HE2 := Lib.hid e2
  clear e0 e1 e2
  go_enter Tryd.func5, Tryd.ntmps5
  go_wp2_with fail
  clear hmin
  go_loopw [8, 9] (fun v i wr => ∃ k : Nat, k ≤ n ∧ i = .int .i64 k ∧ OwnB wr w.heap.size v (x3 l0 l1 l2 k) ∧ Below w.heap.size w wr) (fun _ i _ => n - (intOf i).toNat)
  case atStart => exact ⟨0, Nat.zero_le _, rfl, OwnB.nil _ _, Below.refl _ _⟩
  case round =>
    obtain ⟨k, hk, rfl, hown, hbel⟩ := hrel
    have HO := Lib.hid hown; clear hown
    by_cases hlt : k < n
    · have q0 : k < l0.length := by rw [HE0.out]; omega
      obtain ⟨b0, o0, rfl, d0⟩ := H0.out.reads k q0
      have t0 := World.block_lt_of_cell? w _ d0
      have c0 := (hbel.cell (p := ⟨b0, o0 + k, none⟩) t0).trans d0
      have n0 := HO.out.ne t0
      clear d0
      have q1 : k < l1.length := by rw [HE1.out]; omega
      obtain ⟨b1, o1, rfl, d1⟩ := H1.out.reads k q1
      have t1 := World.block_lt_of_cell? w _ d1
      have c1 := (hbel.cell (p := ⟨b1, o1 + k, none⟩) t1).trans d1
      have n1 := HO.out.ne t1
      clear d1
      have q2 : k < l2.length := by rw [HE2.out]; omega
      obtain ⟨b2, o2, rfl, d2⟩ := H2.out.reads k q2
      have t2 := World.block_lt_of_cell? w _ d2
      have c2 := (hbel.cell (p := ⟨b2, o2 + k, none⟩) t2).trans d2
      have n2 := HO.out.ne t2
      clear d2
      have hs := x3_snoc l0 l1 l2 k q0 q1 q2
      have HS := Lib.hid hs; clear hs
      generalize l0[k] = y0 at *; generalize l1[k] = y1 at *; generalize l2[k] = y2 at *
      unfold bval at c0 c1 c2
      have hx1 := bits8_nat y0 y1
      have hx2 := bits8_nat (y0 ^^^ y1) y2
      generalize y0 ^^^ y1 = z1 at *
      generalize z1 ^^^ y2 = z2 at *
      go_wp2_with fail
      have hbs := hbel.size
      have i0 : (0 : Int) ≤ (k : Int) := by omega
      have i1 : (k : Int) < (len0 : Int) := by omega
      have i2 : (k : Int) < (len1 : Int) := by omega
      have i3 : (k : Int) < (len2 : Int) := by omega
      have hlen : (x3 l0 l1 l2 k).length ≤ 500 := by unfold x3 zipX; simp; omega
      go_region_held3 (fun w' => w'.cell? ⟨b0, o0 + k, none⟩ = some (.int .u8 (y0.toNat : Int)) ∧ w'.cell? ⟨b1, o1 + k, none⟩ = some (.int .u8 (y1.toNat : Int)) ∧ w'.cell? ⟨b2, o2 + k, none⟩ = some (.int .u8 (y2.toNat : Int)))
        (first | go_keep | (go_split_ands; refine ⟨?_, ?_, ?_⟩ <;> (rw [hg1.cell_far _ (by simp; omega) (Ne.symm (by assumption))]; assumption)))
        ((refine step_append_bytes (by rfl) _ _ (by rfl) w.heap.size u8 (x3 l0 l1 l2 k) (by rfl) ((HO.out.alloc _).drew) ⟨wr.heap.size, 0, none⟩ 1 1 [z2] (by rfl) (RB.one _ _ rfl _ _ _).drew rfl (by omega) (by simp; omega) ?_; intro v' w1 ho1 hg1))
      go_wp2_with fail
      have HO1 := Lib.hid ho1
      have hb1 := hbel.grown (w' := w1) (row := u8.ownBlock) (grownBy_alloc_drew hg1) (by omega) (fun b hb => (HO.out.lt b hb).1)
      have HB1 := Lib.hid hb1
      clear ho1 hg1 hb1
      go_roundw
      case rel => exact ⟨k + 1, by omega, by go_num, by rw [HS.out]; exact HO1.out, HB1.out⟩
      case measure => simp [intOf]; omega
    · have hkn : k = n := by omega
      subst hkn
      have i0 : (0 : Int) ≤ (k : Int) := by omega
      have i1 : (k : Int) ≤ (cap0 : Int) := by omega
      have i2 : (k : Int) ≤ (cap1 : Int) := by omega
      have i3 : (k : Int) ≤ (cap2 : Int) := by omega
      go_wp2_with fail
      obtain ⟨ad, nd, cd, rfl, hnd⟩ := HO.out.len
      refine wp_region_still_tail 18 (by kernel_rfl) (by kernel_rfl) ?_
      simp only [List.take_succ_cons, List.take_zero, List.drop_succ_cons, List.drop_zero]
      have HN := Lib.hid hnd; clear hnd
      have HR := Lib.hid (RB.of_own HO.out)
      have HT1 : Hid (Tab wr) := HT.out.below hbel hg
      have J0 := Lib.hid ((H0.out.reads.take k).old hbel)
      have J1 := Lib.hid ((H1.out.reads.take k).old hbel)
      have J2 := Lib.hid ((H2.out.reads.take k).old hbel)
      have L0 : Hid ((l0.take k).length = k) := by show (l0.take k).length = k; rw [List.length_take, HE0.out]; omega
      have L1 : Hid ((l1.take k).length = k) := by show (l1.take k).length = k; rw [List.length_take, HE1.out]; omega
      have L2 : Hid ((l2.take k).length = k) := by show (l2.take k).length = k; rw [List.length_take, HE2.out]; omega
      have hlen : nd ≤ 500 := by rw [← HN.out]; unfold x3 zipX; simp; omega
      repeat still_step
      still_call (sum_still _ _ _ (x3 l0 l1 l2 k) _ HN.out (by omega) HT1.out HR.out)
      repeat still_step
      still_call (sum_still _ _ _ (l0.take k) _ L0.out (by omega) HT1.out J0.out)
      repeat still_step
      still_call (sum_still _ _ _ (l1.take k) _ L1.out (by omega) HT1.out J1.out)
      repeat still_step
      still_call (sum_still _ _ _ (l2.take k) _ L2.out (by omega) HT1.out J2.out)
      repeat still_step
      refine wpStill_nil ?_
      have heq := sumF_three (l0.take k) (l1.take k) (l2.take k) (by rw [L0.out, L1.out]) (by rw [L1.out, L2.out])
      have HX : x3 l0 l1 l2 k = zipX (zipX (l0.take k) (l1.take k)) (l2.take k) := rfl
      rw [← HX] at heq
      clear HX
      change wpList _ _ _ _ _ wr.drew
      have hbel' := hbel.drew
      have HT2 : Hid (Tab wr.drew) := HT1
      clear hbel HO HR HT1 J0 J1 J2
      generalize wr.drew = w2 at *
      go_wp2_with fail
      refine (crc_works _ HT2.out (by have := hbel'.size; omega)).mono ?_
      rintro e w4 ⟨rfl, hb5⟩
      go_wp2_with fail
      go_ret
      exact ⟨rfl, hbel'.trans (hb5.mono hbel'.size)⟩
end Go.Proofs.YtnikeceeclfnpaaDoor
