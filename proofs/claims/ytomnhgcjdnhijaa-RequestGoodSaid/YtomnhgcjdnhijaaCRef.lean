/-
  How much of a volume a configuration needs, by the document.
-/
import Derived.Test.YtomnhgcjdnhijaaCKeyAll
namespace Go.Proofs.Ytomnhgcjdnhijaa
open Go.RowKit
set_option maxRecDepth 100000

theorem ref_between (n : Int) (k : Nat) (w : World) : Calls Try.prog 71 #[.int .i64 n, .int .i64 0, .int .i64 (k : Int)] w fun r w' => r = .returned (.int .i64 (clampN n k : Int)) ∧ w' = w := by
  by_cases h1 : n < 0
  · go_enter Try.func71, Try.ntmps71
    go_wp2_with fail
    go_ret
    exact ⟨ret_i64VV (by unfold clampN; omega), rfl⟩
  · by_cases h2 : (k : Int) < n
    all_goals (
      go_enter Try.func71, Try.ntmps71
      go_wp2_with fail
      go_ret
      exact ⟨ret_i64VV (by unfold clampN; omega), rfl⟩)
theorem ref_most (s o : Int) (w : World) : Calls Try.prog 78 #[.int .i64 s, .int .i64 o] w fun r w' => r = .returned (.int .i64 (mostF s o : Int)) ∧ w' = w := by
  have H1 := Lib.hid (fun u => (show Calls Try.prog 71 #[.int .i64 s, .int .i64 0, .int .i64 8] u fun r w' => r = .returned (.int .i64 (clampN s 8 : Int)) ∧ w' = u from ref_between s 8 u))
  have H2 := Lib.hid (fun u => (show Calls Try.prog 71 #[.int .i64 o, .int .i64 0, .int .i64 32] u fun r w' => r = .returned (.int .i64 (clampN o 32 : Int)) ∧ w' = u from ref_between o 32 u))
  have h : mostF s o = 12 + 343 * clampN s 8 + 318 * clampN o 32 := rfl
  have b1 : clampN s 8 ≤ 8 := by unfold clampN; omega
  have b2 : clampN o 32 ≤ 32 := by unfold clampN; omega
  rw [h]
  generalize clampN s 8 = x at *
  generalize clampN o 32 = y at *
  clear h
  go_enter Try.func78, Try.ntmps78
  go_wp2_with (first | (go_at_call 71; with_reducible refine (H1.out _).mono ?_; rintro r w1 ⟨rfl, rfl⟩) | (go_at_call 71; with_reducible refine (H2.out _).mono ?_; rintro r w1 ⟨rfl, rfl⟩))
  go_ret
  exact ⟨ret_i64VV (by go_num), rfl⟩
theorem ref_blocks (n : Nat) (z : Int) (w : World) (hb : n ≤ 100000) (hz : i64 z) : Calls Try.prog 77 #[.int .i64 n, .int .i64 z] w fun r w' => r = .returned (.int .i64 (piecesF n z : Int)) ∧ w' = w := by
  by_cases h1 : z < 1
  · rw [show piecesF n z = 0 from if_pos h1]
    go_enter Try.func77, Try.ntmps77
    go_wp2_with fail
    go_ret
    exact ⟨rfl, rfl⟩
  · obtain ⟨m, rfl⟩ : ∃ m : Nat, z = (m : Int) := ⟨z.toNat, by omega⟩
    have hm : 1 ≤ m := by omega
    have hp : piecesF n (m : Int) = (n + m - 1) / m := by unfold piecesF; rw [if_neg h1]; simp
    obtain ⟨d, hd⟩ : ∃ d, n / m = d := ⟨_, rfl⟩
    obtain ⟨e, he⟩ : ∃ e, n % m = e := ⟨_, rfl⟩
    have hdl : d ≤ n := by rw [← hd]; exact Nat.div_le_self _ _
    have hel : e < m := by rw [← he]; exact Nat.mod_lt _ (by omega)
    have hdm : n = m * d + e := by rw [← hd, ← he]; exact (Nat.div_add_mod n m).symm
    have hr : (n + m - 1) / m = if 0 < e then d + 1 else d := by
      rw [hdm]
      split
      · rename_i h0
        rw [show m * d + e + m - 1 = (e - 1) + m * (d + 1) by rw [Nat.mul_add]; omega, Nat.add_mul_div_left _ _ (by omega), Nat.div_eq_of_lt (by omega)]
        omega
      · rename_i h0
        rw [show m * d + e + m - 1 = (m - 1) + m * d by omega, Nat.add_mul_div_left _ _ (by omega), Nat.div_eq_of_lt (by omega)]
        omega
    rw [hp, hr]
    have hne : ((m : Int) == 0) = false := by rw [beq_eq_false_iff_ne]; omega
    have hne0 : ¬ m = 0 := by omega
    have r1 : (n : Int) / (m : Int) = (d : Int) := by rw [← hd]; rfl
    have r3 : (n : Int) % (m : Int) = (e : Int) := by rw [← he]; rfl
    have r4 : (n : Int).tdiv (m : Int) = (d : Int) := by rw [← hd]; rfl
    have r5 : (n : Int).tmod (m : Int) = (e : Int) := by rw [← he]; rfl
    clear hp hr hdm hd he
    by_cases h0 : 0 < e
    · rw [if_pos h0]
      have h0' : (0 : Int) < (e : Int) := by omega
      go_enter Try.func77, Try.ntmps77
      go_wp2_with fail
      go_ret
      exact ⟨ret_i64VV (by go_num), rfl⟩
    · rw [if_neg h0]
      have h0' : ¬ (0 : Int) < (e : Int) := by omega
      go_enter Try.func77, Try.ntmps77
      go_wp2_with fail
      go_ret
      exact ⟨ret_i64VV (by go_num), rfl⟩
theorem keysF_len (s v : Int) : (keysF s v).length = countF s v := by
  by_cases h : fineF s v = true
  · obtain ⟨p, rfl⟩ : ∃ p : Nat, s = (p : Int) := ⟨s.toNat, by simp [fineF, btw] at h; omega⟩
    obtain ⟨q, rfl⟩ : ∃ q : Nat, v = (q : Int) := ⟨v.toNat, by simp [fineF, btw] at h; omega⟩
    have h1 : p = 1 ∨ p = 2 ∨ p = 3 ∨ p = 4 := by simp [fineF, btw] at h; omega
    have h2 : q = 1 ∨ q = 2 ∨ q = 3 ∨ q = 4 := by simp [fineF, btw] at h; omega
    clear h
    rcases h1 with rfl | rfl | rfl | rfl <;> rcases h2 with rfl | rfl | rfl | rfl <;> decide +kernel
  · have h := Bool.eq_false_iff.2 h
    rw [keysF_none h]
    unfold countF
    rw [h]
    rfl

set_option maxHeartbeats 3200000 in
theorem ref_heads (c : ConfP) (a : Option Addr) (n k : Nat) (w : World) (hb : i64 c.bl) : Calls Try.prog 76 #[.agg #[.int .i64 c.sk, .int .i64 c.wa, .slice a n k, .int .u8 ((c.p 0 0).toNat : Int), .int .u8 ((c.p 0 1).toNat : Int), .int .u8 ((c.p 0 2).toNat : Int), .int .u8 ((c.p 0 3).toNat : Int), .int .u8 ((c.p 1 0).toNat : Int), .int .u8 ((c.p 1 1).toNat : Int), .int .u8 ((c.p 1 2).toNat : Int), .int .u8 ((c.p 1 3).toNat : Int), .int .u8 ((c.p 2 0).toNat : Int), .int .u8 ((c.p 2 1).toNat : Int), .int .u8 ((c.p 2 2).toNat : Int), .int .u8 ((c.p 2 3).toNat : Int), .int .u8 ((c.p 3 0).toNat : Int), .int .u8 ((c.p 3 1).toNat : Int), .int .u8 ((c.p 3 2).toNat : Int), .int .u8 ((c.p 3 3).toNat : Int), .int .i64 c.sg, .int .i64 c.od, .int .i64 c.rt, .int .i64 c.se, .int .i64 c.ca, .int .i64 c.bl, .int .i64 c.bs]] w fun r w' => r = .returned (.int .i64 (headsF c : Int)) ∧ w.grownBy w' none := by
  have XL := look_later (Box.new w 62 [.int .i64 c.sk, .int .i64 c.wa, .slice a n k, .int .u8 ((c.p 0 0).toNat : Int), .int .u8 ((c.p 0 1).toNat : Int), .int .u8 ((c.p 0 2).toNat : Int), .int .u8 ((c.p 0 3).toNat : Int), .int .u8 ((c.p 1 0).toNat : Int), .int .u8 ((c.p 1 1).toNat : Int), .int .u8 ((c.p 1 2).toNat : Int), .int .u8 ((c.p 1 3).toNat : Int), .int .u8 ((c.p 2 0).toNat : Int), .int .u8 ((c.p 2 1).toNat : Int), .int .u8 ((c.p 2 2).toNat : Int), .int .u8 ((c.p 2 3).toNat : Int), .int .u8 ((c.p 3 0).toNat : Int), .int .u8 ((c.p 3 1).toNat : Int), .int .u8 ((c.p 3 2).toNat : Int), .int .u8 ((c.p 3 3).toNat : Int), .int .i64 c.sg, .int .i64 c.od, .int .i64 c.rt, .int .i64 c.se, .int .i64 c.ca, .int .i64 c.bl, .int .i64 c.bs] w.heap.size rfl)
  have hself := World.grownBy.refl (w.alloc (.cells #[.int .i64 c.sk, .int .i64 c.wa, .slice a n k, .int .u8 ((c.p 0 0).toNat : Int), .int .u8 ((c.p 0 1).toNat : Int), .int .u8 ((c.p 0 2).toNat : Int), .int .u8 ((c.p 0 3).toNat : Int), .int .u8 ((c.p 1 0).toNat : Int), .int .u8 ((c.p 1 1).toNat : Int), .int .u8 ((c.p 1 2).toNat : Int), .int .u8 ((c.p 1 3).toNat : Int), .int .u8 ((c.p 2 0).toNat : Int), .int .u8 ((c.p 2 1).toNat : Int), .int .u8 ((c.p 2 2).toNat : Int), .int .u8 ((c.p 2 3).toNat : Int), .int .u8 ((c.p 3 0).toNat : Int), .int .u8 ((c.p 3 1).toNat : Int), .int .u8 ((c.p 3 2).toNat : Int), .int .u8 ((c.p 3 3).toNat : Int), .int .i64 c.sg, .int .i64 c.od, .int .i64 c.rt, .int .i64 c.se, .int .i64 c.ca, .int .i64 c.bl, .int .i64 c.bs] 62)) none
  have HG := Lib.hid (World.grownBy_alloc w (.cells #[.int .i64 c.sk, .int .i64 c.wa, .slice a n k, .int .u8 ((c.p 0 0).toNat : Int), .int .u8 ((c.p 0 1).toNat : Int), .int .u8 ((c.p 0 2).toNat : Int), .int .u8 ((c.p 0 3).toNat : Int), .int .u8 ((c.p 1 0).toNat : Int), .int .u8 ((c.p 1 1).toNat : Int), .int .u8 ((c.p 1 2).toNat : Int), .int .u8 ((c.p 1 3).toNat : Int), .int .u8 ((c.p 2 0).toNat : Int), .int .u8 ((c.p 2 1).toNat : Int), .int .u8 ((c.p 2 2).toNat : Int), .int .u8 ((c.p 2 3).toNat : Int), .int .u8 ((c.p 3 0).toNat : Int), .int .u8 ((c.p 3 1).toNat : Int), .int .u8 ((c.p 3 2).toNat : Int), .int .u8 ((c.p 3 3).toNat : Int), .int .i64 c.sg, .int .i64 c.od, .int .i64 c.rt, .int .i64 c.se, .int .i64 c.ca, .int .i64 c.bl, .int .i64 c.bs] 62) none)
  have HK := Lib.hid (fun u => ref_all c.sk c.wa u)
  have hkl := keysF_len c.sk c.wa
  have hle := countF_le c.sk c.wa
  by_cases h16 : c.bl < 16
  · have h0 : headsF c = 0 := by
      unfold headsF
      rw [show c.bl.toNat / 16 = 0 from Nat.div_eq_of_lt (by omega)]
      rfl
    rw [h0]
    clear h0 hkl hle hb
    go_enter Try.func76, Try.ntmps76
    go_wp2_with fail
    go_ret
    exact ⟨rfl, HG.out⟩
  · obtain ⟨m, hm⟩ : ∃ m : Nat, c.bl = (m : Int) := ⟨c.bl.toNat, by omega⟩
    have hp : headsF c = piecesF (countF c.sk c.wa) (m / 16 : Nat) := by unfold headsF; rw [hm]; rfl
    rw [hp, ← hkl]
    rw [← hkl] at hle
    have hmb : m ≤ 9223372036854775807 := by have := hb.2; omega
    obtain ⟨d, hd⟩ : ∃ d, m / 16 = d := ⟨_, rfl⟩
    have hdl : d ≤ 9223372036854775807 := by rw [← hd]; exact Nat.le_trans (Nat.div_le_self _ _) hmb
    have r1 : c.bl / 16 = (d : Int) := by rw [hm, ← hd]; rfl
    have r4 : c.bl.tdiv 16 = (d : Int) := by rw [hm, ← hd]; rfl
    have r6 : IntKind.i64.wrap (d : Int) = (d : Int) := by rw [IntKind.wrap_i64]; omega
    rw [hd]
    obtain ⟨F, hF⟩ : ∃ F, keysF c.sk c.wa = F := ⟨_, rfl⟩
    rw [hF] at HK hle ⊢
    have HB := Lib.hid (fun u => ref_blocks F.length (d : Int) u (by omega) ⟨by omega, by omega⟩)
    clear hp hd hF hkl hb hm hmb
    go_enter Try.func76, Try.ntmps76
    go_wp2_with fail
    generalize w.alloc (.cells #[.int .i64 c.sk, .int .i64 c.wa, .slice a n k, .int .u8 ((c.p 0 0).toNat : Int), .int .u8 ((c.p 0 1).toNat : Int), .int .u8 ((c.p 0 2).toNat : Int), .int .u8 ((c.p 0 3).toNat : Int), .int .u8 ((c.p 1 0).toNat : Int), .int .u8 ((c.p 1 1).toNat : Int), .int .u8 ((c.p 1 2).toNat : Int), .int .u8 ((c.p 1 3).toNat : Int), .int .u8 ((c.p 2 0).toNat : Int), .int .u8 ((c.p 2 1).toNat : Int), .int .u8 ((c.p 2 2).toNat : Int), .int .u8 ((c.p 2 3).toNat : Int), .int .u8 ((c.p 3 0).toNat : Int), .int .u8 ((c.p 3 1).toNat : Int), .int .u8 ((c.p 3 2).toNat : Int), .int .u8 ((c.p 3 3).toNat : Int), .int .i64 c.sg, .int .i64 c.od, .int .i64 c.rt, .int .i64 c.se, .int .i64 c.ca, .int .i64 c.bl, .int .i64 c.bs] 62) = w1 at *
    have hS0 : w1.grownBy w1.drew none := grown_drew1 _
    have hS1 : w1.grownBy w1 none := World.grownBy.refl _ _
    go_region_held_law (fun w' => w1.grownBy w' none) (with_reducible (first | assumption | exact keepA'VV (by assumption))) (first
      | (go_at_call 72; (with_reducible refine (HK.out _).mono ?_); rintro r w2 ⟨a2, c2, rfl, hl2, hg2⟩; have hSa := growTVV hg2 (by with_reducible assumption))
      | (go_at_call 77; (with_reducible refine (HB.out _).mono ?_); rintro r w3 ⟨rfl, rfl⟩))
    all_goals (
      go_wp2_with fail
      go_ret
      exact ⟨rfl, grown_trans HG.out (by with_reducible assumption)⟩)
set_option maxHeartbeats 3200000 in
theorem ref_area (c : ConfP) (a : Option Addr) (n k : Nat) (w : World) (hb : i64 c.bl) : Calls Try.prog 73 #[.agg #[.int .i64 c.sk, .int .i64 c.wa, .slice a n k, .int .u8 ((c.p 0 0).toNat : Int), .int .u8 ((c.p 0 1).toNat : Int), .int .u8 ((c.p 0 2).toNat : Int), .int .u8 ((c.p 0 3).toNat : Int), .int .u8 ((c.p 1 0).toNat : Int), .int .u8 ((c.p 1 1).toNat : Int), .int .u8 ((c.p 1 2).toNat : Int), .int .u8 ((c.p 1 3).toNat : Int), .int .u8 ((c.p 2 0).toNat : Int), .int .u8 ((c.p 2 1).toNat : Int), .int .u8 ((c.p 2 2).toNat : Int), .int .u8 ((c.p 2 3).toNat : Int), .int .u8 ((c.p 3 0).toNat : Int), .int .u8 ((c.p 3 1).toNat : Int), .int .u8 ((c.p 3 2).toNat : Int), .int .u8 ((c.p 3 3).toNat : Int), .int .i64 c.sg, .int .i64 c.od, .int .i64 c.rt, .int .i64 c.se, .int .i64 c.ca, .int .i64 c.bl, .int .i64 c.bs]] w fun r w' => r = .returned (.int .i64 (areaF c : Int)) ∧ w.grownBy w' none := by
  have HH := Lib.hid (fun u => ref_heads c a n k u hb)
  have HM := Lib.hid (fun u => ref_most c.sg c.od u)
  obtain ⟨h1, h2⟩ := needs_le c
  have hle := (mostF_le c.sg c.od).2
  have ht : areaF c = headsF c + piecesF (mostF c.sg c.od) c.bl := rfl
  rw [show tablesF c = piecesF (mostF c.sg c.od) c.bl from rfl] at h2
  have HB := Lib.hid (fun u => ref_blocks (mostF c.sg c.od) c.bl u (by omega) hb)
  rw [ht]
  generalize mostF c.sg c.od = q at *
  generalize headsF c = x at *
  generalize piecesF q c.bl = y at *
  have HWR := Lib.hid (show IntKind.i64.wrap ((x : Int) + (y : Int)) = ((x + y : Nat) : Int) by rw [← wrap_64]; unfold wrap64; omega)
  have hbx := Box.new w 62 [.int .i64 c.sk, .int .i64 c.wa, .slice a n k, .int .u8 ((c.p 0 0).toNat : Int), .int .u8 ((c.p 0 1).toNat : Int), .int .u8 ((c.p 0 2).toNat : Int), .int .u8 ((c.p 0 3).toNat : Int), .int .u8 ((c.p 1 0).toNat : Int), .int .u8 ((c.p 1 1).toNat : Int), .int .u8 ((c.p 1 2).toNat : Int), .int .u8 ((c.p 1 3).toNat : Int), .int .u8 ((c.p 2 0).toNat : Int), .int .u8 ((c.p 2 1).toNat : Int), .int .u8 ((c.p 2 2).toNat : Int), .int .u8 ((c.p 2 3).toNat : Int), .int .u8 ((c.p 3 0).toNat : Int), .int .u8 ((c.p 3 1).toNat : Int), .int .u8 ((c.p 3 2).toNat : Int), .int .u8 ((c.p 3 3).toNat : Int), .int .i64 c.sg, .int .i64 c.od, .int .i64 c.rt, .int .i64 c.se, .int .i64 c.ca, .int .i64 c.bl, .int .i64 c.bs] w.heap.size rfl
  have XL := look_later hbx
  have hlf := fun (N : Nat) (hN : N = 26) u (hg : (w.alloc (.cells #[.int .i64 c.sk, .int .i64 c.wa, .slice a n k, .int .u8 ((c.p 0 0).toNat : Int), .int .u8 ((c.p 0 1).toNat : Int), .int .u8 ((c.p 0 2).toNat : Int), .int .u8 ((c.p 0 3).toNat : Int), .int .u8 ((c.p 1 0).toNat : Int), .int .u8 ((c.p 1 1).toNat : Int), .int .u8 ((c.p 1 2).toNat : Int), .int .u8 ((c.p 1 3).toNat : Int), .int .u8 ((c.p 2 0).toNat : Int), .int .u8 ((c.p 2 1).toNat : Int), .int .u8 ((c.p 2 2).toNat : Int), .int .u8 ((c.p 2 3).toNat : Int), .int .u8 ((c.p 3 0).toNat : Int), .int .u8 ((c.p 3 1).toNat : Int), .int .u8 ((c.p 3 2).toNat : Int), .int .u8 ((c.p 3 3).toNat : Int), .int .i64 c.sg, .int .i64 c.od, .int .i64 c.rt, .int .i64 c.se, .int .i64 c.ca, .int .i64 c.bl, .int .i64 c.bs] 62)).grownBy u none) => load_row u w.heap.size [.int .i64 c.sk, .int .i64 c.wa, .slice a n k, .int .u8 ((c.p 0 0).toNat : Int), .int .u8 ((c.p 0 1).toNat : Int), .int .u8 ((c.p 0 2).toNat : Int), .int .u8 ((c.p 0 3).toNat : Int), .int .u8 ((c.p 1 0).toNat : Int), .int .u8 ((c.p 1 1).toNat : Int), .int .u8 ((c.p 1 2).toNat : Int), .int .u8 ((c.p 1 3).toNat : Int), .int .u8 ((c.p 2 0).toNat : Int), .int .u8 ((c.p 2 1).toNat : Int), .int .u8 ((c.p 2 2).toNat : Int), .int .u8 ((c.p 2 3).toNat : Int), .int .u8 ((c.p 3 0).toNat : Int), .int .u8 ((c.p 3 1).toNat : Int), .int .u8 ((c.p 3 2).toNat : Int), .int .u8 ((c.p 3 3).toNat : Int), .int .i64 c.sg, .int .i64 c.od, .int .i64 c.rt, .int .i64 c.se, .int .i64 c.ca, .int .i64 c.bl, .int .i64 c.bs] N (by rw [hN]; rfl) (range_conf (hbx.grown hg))
  have HLF := Lib.hid hlf
  have HG := Lib.hid (World.grownBy_alloc w (.cells #[.int .i64 c.sk, .int .i64 c.wa, .slice a n k, .int .u8 ((c.p 0 0).toNat : Int), .int .u8 ((c.p 0 1).toNat : Int), .int .u8 ((c.p 0 2).toNat : Int), .int .u8 ((c.p 0 3).toNat : Int), .int .u8 ((c.p 1 0).toNat : Int), .int .u8 ((c.p 1 1).toNat : Int), .int .u8 ((c.p 1 2).toNat : Int), .int .u8 ((c.p 1 3).toNat : Int), .int .u8 ((c.p 2 0).toNat : Int), .int .u8 ((c.p 2 1).toNat : Int), .int .u8 ((c.p 2 2).toNat : Int), .int .u8 ((c.p 2 3).toNat : Int), .int .u8 ((c.p 3 0).toNat : Int), .int .u8 ((c.p 3 1).toNat : Int), .int .u8 ((c.p 3 2).toNat : Int), .int .u8 ((c.p 3 3).toNat : Int), .int .i64 c.sg, .int .i64 c.od, .int .i64 c.rt, .int .i64 c.se, .int .i64 c.ca, .int .i64 c.bl, .int .i64 c.bs] 62) none)
  clear ht hb hbx hlf
  go_enter Try.func73, Try.ntmps73
  go_wp2_with fail
  generalize w.alloc (.cells #[.int .i64 c.sk, .int .i64 c.wa, .slice a n k, .int .u8 ((c.p 0 0).toNat : Int), .int .u8 ((c.p 0 1).toNat : Int), .int .u8 ((c.p 0 2).toNat : Int), .int .u8 ((c.p 0 3).toNat : Int), .int .u8 ((c.p 1 0).toNat : Int), .int .u8 ((c.p 1 1).toNat : Int), .int .u8 ((c.p 1 2).toNat : Int), .int .u8 ((c.p 1 3).toNat : Int), .int .u8 ((c.p 2 0).toNat : Int), .int .u8 ((c.p 2 1).toNat : Int), .int .u8 ((c.p 2 2).toNat : Int), .int .u8 ((c.p 2 3).toNat : Int), .int .u8 ((c.p 3 0).toNat : Int), .int .u8 ((c.p 3 1).toNat : Int), .int .u8 ((c.p 3 2).toNat : Int), .int .u8 ((c.p 3 3).toNat : Int), .int .i64 c.sg, .int .i64 c.od, .int .i64 c.rt, .int .i64 c.se, .int .i64 c.ca, .int .i64 c.bl, .int .i64 c.bs] 62) = w1 at *
  obtain ⟨N, hN⟩ : ∃ N : Nat, N = 26 := ⟨_, rfl⟩
  have ld := HLF.out N hN
  obtain ⟨T, hT⟩ : ∃ T : TypeId, T = 62 := ⟨_, rfl⟩
  have t1 : ∀ u, (isAgg T).run Try.prog u = .ok true u := fun u => by rw [hT]; exact Try.isAgg62 u
  have t2 : ∀ u, (sizeOf T).run Try.prog u = .ok N u := fun u => by rw [hT, hN]; exact Try.sizeOf62 u
  rw [show Op.load 62 (Operand.tmp 1) = Op.load T (Operand.tmp 1) from by rw [hT]]
  have HTT := Lib.hid hT; have HNN := Lib.hid hN
  clear hT hN
  have hS0 : w1.grownBy w1.drew none := grown_drew1 _
  have hS1 : w1.grownBy w1 none := World.grownBy.refl _ _
  go_region_held_law (fun w' => w1.grownBy w' none) (with_reducible (first | assumption | exact keepA'VV (by assumption))) (first
    | (go_at_call 76; (with_reducible refine (HH.out _).mono ?_); rintro r w2 ⟨rfl, hg⟩; have hSa := growTVV hg (by with_reducible assumption))
    | (go_at_call 78; (with_reducible refine (HM.out _).mono ?_); rintro r w2 ⟨rfl, rfl⟩)
    | (go_at_call 77; (with_reducible refine (HB.out _).mono ?_); rintro r w2 ⟨rfl, rfl⟩))
  all_goals (
    go_wp2_with fail
    go_ret
    exact ⟨ret_i64VV HWR.out, grown_trans HG.out (by with_reducible assumption)⟩)
set_option maxHeartbeats 3200000 in
theorem ref_need (c : ConfP) (a : Option Addr) (n k : Nat) (w : World) (hb : i64 c.bl) : Calls Try.prog 60 #[.agg #[.int .i64 c.sk, .int .i64 c.wa, .slice a n k, .int .u8 ((c.p 0 0).toNat : Int), .int .u8 ((c.p 0 1).toNat : Int), .int .u8 ((c.p 0 2).toNat : Int), .int .u8 ((c.p 0 3).toNat : Int), .int .u8 ((c.p 1 0).toNat : Int), .int .u8 ((c.p 1 1).toNat : Int), .int .u8 ((c.p 1 2).toNat : Int), .int .u8 ((c.p 1 3).toNat : Int), .int .u8 ((c.p 2 0).toNat : Int), .int .u8 ((c.p 2 1).toNat : Int), .int .u8 ((c.p 2 2).toNat : Int), .int .u8 ((c.p 2 3).toNat : Int), .int .u8 ((c.p 3 0).toNat : Int), .int .u8 ((c.p 3 1).toNat : Int), .int .u8 ((c.p 3 2).toNat : Int), .int .u8 ((c.p 3 3).toNat : Int), .int .i64 c.sg, .int .i64 c.od, .int .i64 c.rt, .int .i64 c.se, .int .i64 c.ca, .int .i64 c.bl, .int .i64 c.bs]] w fun r w' => r = .returned (.int .i64 (needF c : Int)) ∧ w.grownBy w' none := by
  have HH := Lib.hid (fun u => ref_area c a n k u hb)
  have h0 := needs_le c
  have h1 : areaF c ≤ 20000 := by unfold areaF; omega
  have ht : needF c = 2 * areaF c + 2 := rfl
  rw [ht]
  generalize areaF c = x at *
  have HBX := Lib.hid (range_conf (Box.new w 62 [.int .i64 c.sk, .int .i64 c.wa, .slice a n k, .int .u8 ((c.p 0 0).toNat : Int), .int .u8 ((c.p 0 1).toNat : Int), .int .u8 ((c.p 0 2).toNat : Int), .int .u8 ((c.p 0 3).toNat : Int), .int .u8 ((c.p 1 0).toNat : Int), .int .u8 ((c.p 1 1).toNat : Int), .int .u8 ((c.p 1 2).toNat : Int), .int .u8 ((c.p 1 3).toNat : Int), .int .u8 ((c.p 2 0).toNat : Int), .int .u8 ((c.p 2 1).toNat : Int), .int .u8 ((c.p 2 2).toNat : Int), .int .u8 ((c.p 2 3).toNat : Int), .int .u8 ((c.p 3 0).toNat : Int), .int .u8 ((c.p 3 1).toNat : Int), .int .u8 ((c.p 3 2).toNat : Int), .int .u8 ((c.p 3 3).toNat : Int), .int .i64 c.sg, .int .i64 c.od, .int .i64 c.rt, .int .i64 c.se, .int .i64 c.ca, .int .i64 c.bl, .int .i64 c.bs] w.heap.size rfl))
  have HG := Lib.hid (World.grownBy_alloc w (.cells #[.int .i64 c.sk, .int .i64 c.wa, .slice a n k, .int .u8 ((c.p 0 0).toNat : Int), .int .u8 ((c.p 0 1).toNat : Int), .int .u8 ((c.p 0 2).toNat : Int), .int .u8 ((c.p 0 3).toNat : Int), .int .u8 ((c.p 1 0).toNat : Int), .int .u8 ((c.p 1 1).toNat : Int), .int .u8 ((c.p 1 2).toNat : Int), .int .u8 ((c.p 1 3).toNat : Int), .int .u8 ((c.p 2 0).toNat : Int), .int .u8 ((c.p 2 1).toNat : Int), .int .u8 ((c.p 2 2).toNat : Int), .int .u8 ((c.p 2 3).toNat : Int), .int .u8 ((c.p 3 0).toNat : Int), .int .u8 ((c.p 3 1).toNat : Int), .int .u8 ((c.p 3 2).toNat : Int), .int .u8 ((c.p 3 3).toNat : Int), .int .i64 c.sg, .int .i64 c.od, .int .i64 c.rt, .int .i64 c.se, .int .i64 c.ca, .int .i64 c.bl, .int .i64 c.bs] 62) none)
  clear ht hb h0
  go_enter Try.func60, Try.ntmps60
  go_wp2_with (refine wpList_load_mid (op := ⟨some 3, _, _, _, _, _⟩) rfl 62 _ rfl w.heap.size 0 rfl [.int .i64 c.sk, .int .i64 c.wa, .slice a n k, .int .u8 ((c.p 0 0).toNat : Int), .int .u8 ((c.p 0 1).toNat : Int), .int .u8 ((c.p 0 2).toNat : Int), .int .u8 ((c.p 0 3).toNat : Int), .int .u8 ((c.p 1 0).toNat : Int), .int .u8 ((c.p 1 1).toNat : Int), .int .u8 ((c.p 1 2).toNat : Int), .int .u8 ((c.p 1 3).toNat : Int), .int .u8 ((c.p 2 0).toNat : Int), .int .u8 ((c.p 2 1).toNat : Int), .int .u8 ((c.p 2 2).toNat : Int), .int .u8 ((c.p 2 3).toNat : Int), .int .u8 ((c.p 3 0).toNat : Int), .int .u8 ((c.p 3 1).toNat : Int), .int .u8 ((c.p 3 2).toNat : Int), .int .u8 ((c.p 3 3).toNat : Int), .int .i64 c.sg, .int .i64 c.od, .int .i64 c.rt, .int .i64 c.se, .int .i64 c.ca, .int .i64 c.bl, .int .i64 c.bs] _ HBX.out Try.underlying62 rfl info_conf ?_)
  go_wp2_with fail
  refine (HH.out _).mono ?_
  rintro r w2 ⟨rfl, hg⟩
  have HG2 := Lib.hid (grown_trans HG.out hg)
  clear hg
  go_wp2_with fail
  go_ret
  exact ⟨rfl, HG2.out⟩

end Go.Proofs.Ytomnhgcjdnhijaa
