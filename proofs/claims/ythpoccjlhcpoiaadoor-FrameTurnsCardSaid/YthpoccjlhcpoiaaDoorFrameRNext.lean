/-
  The document's 'Next'.
-/
import Derived.Test.YthpoccjlhcpoiaaDoorFrameNext
namespace Go.Proofs.YthpoccjlhcpoiaaDoor
open Go.RowKit

theorem valN_two {l : List UInt8} (h : 2 ≤ l.length) : valN (l.take 2) = (l.getD 0 0).toNat + 256 * (l.getD 1 0).toNat := by
  match l, h with
  | c :: d :: l, _ => simp [valN]

def RefNextPost (w : World) (X : Nat → Prop) (t : List UInt8 × Nat × Int) (r : Ending) (w' : World) : Prop :=
  ∃ a n c, r = .returned (.tuple #[.slice a n c, .int .i64 (t.2.1 : Int), .int .i64 t.2.2]) ∧ RS w' X a n c t.1 ∧ w.grownBy w' none

set_option maxRecDepth 100000 in
set_option maxHeartbeats 3200000 in
theorem ref_next {X : Nat → Prop} (a : Option Addr) (n cap : Nat) (l : List UInt8) (w : World) (hs : RS w X a n cap l) (hm : n ≤ 100000) :
    Calls Tryd.prog 12 #[.slice a n cap] w (RefNextPost w X (nextF l)) := by
  have HS := Lib.hid hs
  have hcap := hs.le
  clear hs
  by_cases h6 : n < 6
  · have hx : nextF l = ([], 0, 6) := by unfold nextF; rw [if_pos (by rw [HS.out.len]; exact h6)]
    rw [hx]
    have h6' : (n : Int) < 6 := by omega
    go_enter Tryd.func12, Tryd.ntmps12
    go_wp2_with fail
    go_ret3
    exact ⟨none, 0, 0, rfl, RS.none _ _, World.grownBy.refl _ _⟩
  · have h6' : (6 : Int) ≤ (n : Int) := by omega
    have h6c : (6 : Int) ≤ (cap : Int) := by omega
    have hlen : l.length = n := HS.out.len
    obtain ⟨x, hx⟩ : ∃ x, valN (l.take 2) = x := ⟨_, rfl⟩
    obtain ⟨y, hy⟩ : ∃ y, valN ((l.drop 2).take 4) = y := ⟨_, rfl⟩
    have hylt : y < 4294967296 := by
      rw [← hy]
      exact Nat.lt_of_lt_of_le (valN_lt _) (Nat.le_trans (Nat.pow_le_pow_right (by decide) (show 8 * _ ≤ 32 by rw [List.length_take]; omega)) (by decide))
    have hgn : getNum (l.drop 2) 4 = (y, (l.drop 2).drop 4, 0) := by
      unfold getNum
      rw [if_neg (by omega), if_neg (by rw [List.length_drop]; omega), ← hy]
      rfl
    have hnx : nextF l = if x < 1 ∨ 512 < x then ([], 0, 8) else if n < 6 + x then ([], 0, 6) else if sumN ((l.drop 6).take x) ≠ y then ([], 0, 9) else ((l.drop 6).take x, 6 + x, 0) := by
      unfold nextF
      rw [if_neg (by omega), hx, hy, hlen]
    rw [hnx]
    have hx2 := valN_two (l := l) (by omega)
    rw [hx] at hx2
    have HGN := Lib.hid hgn
    have hw2 : IntKind.u32.wrap (y : Int) = (y : Int) := wrap_u32 _ (by omega) (by omega)
    obtain ⟨b0, o0, ha, hc0⟩ := HS.out.rx.rb.get 0 (by omega)
    subst ha
    obtain ⟨b1, o1, ha, hc1⟩ := HS.out.rx.rb.get 1 (by omega)
    cases ha
    obtain ⟨u, hu⟩ : ∃ u, l.getD 0 0 = u := ⟨_, rfl⟩
    obtain ⟨v, hv⟩ : ∃ v, l.getD 1 0 = v := ⟨_, rfl⟩
    rw [hu] at hc0 hx2
    rw [hv] at hc1 hx2
    have d0 : w.cell? ⟨b0, o0, none⟩ = some (.int .u8 (u.toNat : Int)) := hc0
    have d1 : w.cell? ⟨b0, o0 + 1, none⟩ = some (.int .u8 (v.toNat : Int)) := hc1
    have hu8 := u.toNat_lt
    have hv8 := v.toNat_lt
    have hxi : (u.toNat : Int) + 256 * (v.toNat : Int) = (x : Int) := by omega
    clear hnx hx hy hlen hgn hc0 hc1 hu hv hylt hx2
    by_cases c1 : x < 1
    · rw [if_pos (.inl c1)]
      have c1' : ((x : Int) == 0) = true := by simp; omega
      go_enter Tryd.func12, Tryd.ntmps12
      go_wp2_with fail
      go_quiet (fail)
      have HS1 := Lib.hid (HS.out.grown (grown_drewN w nq)); have HG1 := Lib.hid (grown_drewN w nq)
      clear d0 d1
      generalize w.drewN nq = w1 at *
      go_wp2_with fail
      go_ret3
      exact ⟨none, 0, 0, rfl, RS.none _ _, HG1.out⟩
    · have c1' : ((x : Int) == 0) = false := by simp; omega
      by_cases c2 : 512 < x
      · rw [if_pos (.inr c2)]
        have c2' : (512 : Int) < (x : Int) := by omega
        go_enter Tryd.func12, Tryd.ntmps12
        go_wp2_with fail
        go_quiet (fail)
        have HS1 := Lib.hid (HS.out.grown (grown_drewN w nq)); have HG1 := Lib.hid (grown_drewN w nq)
        clear d0 d1
        generalize w.drewN nq = w1 at *
        go_wp2_with fail
        go_ret3
        exact ⟨none, 0, 0, rfl, RS.none _ _, HG1.out⟩
      · rw [if_neg (by omega)]
        have hsub : IntKind.i64.wrap ((n : Int) - 6) = (n : Int) - 6 := wrap_small _ (by omega) (by omega)
        by_cases c3 : n < 6 + x
        · rw [if_pos c3]
          have c3' : (n : Int) - 6 < (x : Int) := by omega
          go_enter Tryd.func12, Tryd.ntmps12
          go_wp2_with fail
          go_quiet (fail)
          have HS1 := Lib.hid (HS.out.grown (grown_drewN w nq)); have HG1 := Lib.hid (grown_drewN w nq)
          clear d0 d1
          generalize w.drewN nq = w1 at *
          go_wp2_with fail
          go_ret3
          exact ⟨none, 0, 0, rfl, RS.none _ _, HG1.out⟩
        · rw [if_neg c3]
          have c3' : (x : Int) ≤ (n : Int) - 6 := by omega
          obtain ⟨p, hp⟩ : ∃ p, (l.drop 6).take x = p := ⟨_, rfl⟩
          rw [hp]
          have hpl : p.length = x := by rw [← hp, List.length_take, List.length_drop, HS.out.len]; omega
          have hrp := (HS.out.rx.drop 6).take x
          rw [hp] at hrp
          have HPL := Lib.hid hpl; have HRP := Lib.hid hrp
          have m1 : (6 : Int) ≤ 6 + (x : Int) := by omega
          have m2 : 6 + (x : Int) ≤ (n : Int) := by omega
          have m3 : 6 + (x : Int) ≤ (cap : Int) := by omega
          have m0 : (6 : Int) < (cap : Int) := by omega
          have m4 : (2 : Int) < (cap : Int) := by omega
          have m5 : (2 : Int) ≤ (n : Int) := by omega
          clear hp hpl hrp
          obtain ⟨z, hz⟩ : ∃ z, sumN p = z := ⟨_, rfl⟩
          rw [hz]
          have HZ := Lib.hid (show sumF p = (z : Int) by rw [sumN_eq, hz])
          clear hz
          by_cases c4 : z = y
          · rw [if_neg (by simpa using c4)]
            subst c4
            go_enter Tryd.func12, Tryd.ntmps12
            go_wp2_with fail
            go_quiet (fail)
            have HS1 := Lib.hid (HS.out.grown (grown_drewN w nq)); have HG1 := Lib.hid (grown_drewN w nq)
            clear d0 d1
            generalize w.drewN nq = w1 at *
            go_wp2_with fail
            have HD2 := Lib.hid (show RS w1 X (some ⟨b0, o0 + 2, none⟩) (n - 2) (cap - 2) (l.drop 2) from ⟨by rw [List.length_drop, HS1.out.len], by omega, by have := HS1.out.max; omega, by simpa [Addr.add_lit] using HS1.out.rx.drop 2⟩)
            refine (ref_getnum _ _ _ _ 4 w1 HD2.out).mono ?_
            rw [HGN.out]
            rintro r w2 ⟨r2, n2, c2', rfl, _, hg⟩
            have HG2 := Lib.hid (grown_trans HG1.out hg)
            have HR2 := Lib.hid (show RS w2 X (some ⟨b0, o0 + 6, none⟩) x (cap - 6) p from ⟨HPL.out, by omega, by have := HS.out.max; omega, by simpa [Addr.add_lit] using HRP.out.kept (Kept.of_grown HG2.out)⟩)
            clear hg
            go_wp2_with fail
            refine (rsum_any _ _ _ p w2 HR2.out.len (by omega) HR2.out.rx.rb).mono ?_
            rw [HZ.out]
            rintro r w3 ⟨rfl, rfl⟩
            go_wp2_with fail
            go_ret3
            exact ⟨some ⟨b0, o0 + 6, none⟩, x, cap - 6, rfl, HR2.out, HG2.out⟩
          · rw [if_pos c4]
            have hsy : ((y : Int) != (z : Int)) = true := by simp; omega
            go_enter Tryd.func12, Tryd.ntmps12
            go_wp2_with fail
            go_quiet (fail)
            have HS1 := Lib.hid (HS.out.grown (grown_drewN w nq)); have HG1 := Lib.hid (grown_drewN w nq)
            clear d0 d1
            generalize w.drewN nq = w1 at *
            go_wp2_with fail
            have HD2 := Lib.hid (show RS w1 X (some ⟨b0, o0 + 2, none⟩) (n - 2) (cap - 2) (l.drop 2) from ⟨by rw [List.length_drop, HS1.out.len], by omega, by have := HS1.out.max; omega, by simpa [Addr.add_lit] using HS1.out.rx.drop 2⟩)
            refine (ref_getnum _ _ _ _ 4 w1 HD2.out).mono ?_
            rw [HGN.out]
            rintro r w2 ⟨r2, n2, c2', rfl, _, hg⟩
            have HG2 := Lib.hid (grown_trans HG1.out hg)
            have HR2 := Lib.hid (show RS w2 X (some ⟨b0, o0 + 6, none⟩) x (cap - 6) p from ⟨HPL.out, by omega, by have := HS.out.max; omega, by simpa [Addr.add_lit] using HRP.out.kept (Kept.of_grown HG2.out)⟩)
            clear hg
            go_wp2_with fail
            refine (rsum_any _ _ _ p w2 HR2.out.len (by omega) HR2.out.rx.rb).mono ?_
            rw [HZ.out]
            rintro r w3 ⟨rfl, rfl⟩
            go_wp2_with fail
            go_ret3
            exact ⟨none, 0, 0, rfl, RS.none _ _, HG2.out⟩

end Go.Proofs.YthpoccjlhcpoiaaDoor
