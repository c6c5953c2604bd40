/-
  The document's own functions for layer 3: what is read.
-/
import Derived.Test.YtomnhgcjdnhijaaWireRef
namespace Go.Proofs.Ytomnhgcjdnhijaa
open Go.RowKit

/-- what 'GetNum' says -/
def getNum (l : List UInt8) (n : Int) : Nat × List UInt8 × Int :=
  if n < 1 ∨ 8 < n then (0, [], 1) else if (l.length : Int) < n then (0, [], 6) else (valN (l.take n.toNat), l.drop n.toNat, 0)
def getBool (l : List UInt8) : Bool × List UInt8 × Int :=
  if l.length < 1 then (false, [], 6) else if 1 < (l.headD 0).toNat then (false, [], 8) else (l.headD 0 == 1, l.drop 1, 0)
def getBytes (l : List UInt8) (most : Int) : List UInt8 × List UInt8 × Int :=
  let t := getNum l 2
  if t.2.2 ≠ 0 then ([], [], t.2.2) else if most < t.1 then ([], [], 7) else if t.2.1.length < t.1 then ([], [], 6) else (t.2.1.take t.1, t.2.1.drop t.1, 0)

/-- a slice of bytes that one may read and cut -/
structure RS (w : World) (X : Nat → Prop) (r : Option Addr) (n c : Nat) (l : List UInt8) : Prop where
  len : l.length = n
  le : n ≤ c
  max : c ≤ maxLen
  rx : RX w X r l
theorem RS.none (w : World) (X : Nat → Prop) : RS w X Option.none 0 0 [] := ⟨rfl, Nat.le_refl _, by simp [maxLen], RX.nil _ _ _⟩
theorem RS.kept {w w' : World} {X : Nat → Prop} {r : Option Addr} {n c : Nat} {l : List UInt8} (h : RS w X r n c l) (hk : Kept X w w') : RS w' X r n c l := ⟨h.len, h.le, h.max, h.rx.kept hk⟩
theorem RS.grown {w w' : World} {X : Nat → Prop} {r : Option Addr} {n c : Nat} {l : List UInt8} (h : RS w X r n c l) (hg : w.grownBy w' Option.none) : RS w' X r n c l := h.kept (Kept.of_grown hg)
def GetNumPost (w : World) (X : Nat → Prop) (t : Nat × List UInt8 × Int) (e : Ending) (w' : World) : Prop :=
  ∃ r n c, e = .returned (.tuple #[.int .u64 (t.1 : Int), .slice r n c, .int .i64 t.2.2]) ∧ RS w' X r n c t.2.1 ∧ w.grownBy w' none
def GetBoolPost (w : World) (X : Nat → Prop) (t : Bool × List UInt8 × Int) (e : Ending) (w' : World) : Prop :=
  ∃ r n c, e = .returned (.tuple #[.bool t.1, .slice r n c, .int .i64 t.2.2]) ∧ RS w' X r n c t.2.1 ∧ w.grownBy w' none
def GetBytesPost (w : World) (X : Nat → Prop) (t : List UInt8 × List UInt8 × Int) (e : Ending) (w' : World) : Prop :=
  ∃ q m d r n c, e = .returned (.tuple #[.slice q m d, .slice r n c, .int .i64 t.2.2]) ∧ RS w' X q m d t.1 ∧ RS w' X r n c t.2.1 ∧ w.grownBy w' none

theorem valN_le (m : List UInt8) (k j : Nat) (hk : m.length = k) (h8 : k ≤ 8) : valN (m.drop j) < 18446744073709551616 := by
  have h1 := valN_lt (m.drop j)
  refine Nat.lt_of_lt_of_le h1 (Nat.le_trans (Nat.pow_le_pow_right (by decide) (show 8 * _ ≤ 64 by rw [List.length_drop]; omega)) (by decide))

theorem getNum_lt (l : List UInt8) (n : Int) : (getNum l n).1 < 2 ^ (8 * n.toNat) := by
  unfold getNum
  split
  · exact Nat.pow_pos (by decide)
  · split
    · exact Nat.pow_pos (by decide)
    · refine Nat.lt_of_lt_of_le (valN_lt _) (Nat.pow_le_pow_right (by decide) ?_)
      rw [List.length_take]
      omega

/-- the number of the bytes from the k-th on -/
theorem valN_drop (l : List UInt8) (k : Nat) (hk : k < l.length) : valN (l.drop k) = (l.getD k 0).toNat + 256 * valN (l.drop (k + 1)) := by
  rw [List.drop_eq_getElem_cons hk, valN, List.getD_eq_getElem?_getD, List.getElem?_eq_getElem hk]
  rfl

set_option maxRecDepth 100000 in
set_option maxHeartbeats 1600000 in
theorem ref_getnum {X : Nat → Prop} (a : Option Addr) (len cap : Nat) (l : List UInt8) (n : Int) (w : World) (hs : RS w X a len cap l) :
    Calls Try.prog 67 #[.slice a len cap, .int .i64 n] w (GetNumPost w X (getNum l n)) := by
  have HN := Lib.hid hs.len; have HR := Lib.hid hs.rx; have HM := Lib.hid hs.max
  have hc := hs.le
  clear hs
  unfold getNum
  by_cases h1 : n < 1
  · rw [if_pos (.inl h1)]
    go_enter Try.func67, Try.ntmps67
    go_wp2_with fail
    go_ret3
    exact ⟨none, 0, 0, rfl, RS.none _ _, World.grownBy.refl _ _⟩
  · by_cases h8 : 8 < n
    · rw [if_pos (.inr h8)]
      go_enter Try.func67, Try.ntmps67
      go_wp2_with fail
      go_ret3
      exact ⟨none, 0, 0, rfl, RS.none _ _, World.grownBy.refl _ _⟩
    · rw [if_neg (by omega)]
      obtain ⟨k, rfl⟩ : ∃ k : Nat, n = k := ⟨n.toNat, by omega⟩
      by_cases hl : (len : Int) < (k : Int)
      · rw [HN.out, if_pos hl]
        go_enter Try.func67, Try.ntmps67
        go_wp2_with fail
        go_ret3
        exact ⟨none, 0, 0, rfl, RS.none _ _, World.grownBy.refl _ _⟩
      · rw [HN.out, if_neg hl, Int.toNat_natCast]
        go_enter Try.func67, Try.ntmps67
        go_wp2_with fail
        obtain ⟨m, hm⟩ : ∃ m, l.take k = m := ⟨_, rfl⟩
        have hmk : m.length = k := by rw [← hm, List.length_take, HN.out]; omega
        rw [hm]
        have HMK := Lib.hid hmk; have HMM := Lib.hid hm
        clear hm hmk
        have hk8 : k ≤ 8 := by omega
        have hkl : k ≤ len := by omega
        have hk1 : 1 ≤ k := by omega
        clear h1 h8
        go_loop [7, 8] (fun vx i => ∃ j : Nat, j ≤ k ∧ i = .int .i64 ((j : Int) - 1) ∧ vx = .int .u64 (valN (m.drop j) : Nat)) (fun _ i => (intOf i + 1).toNat)
        case atStart => exact ⟨k, Nat.le_refl _, rfl, by rw [List.drop_of_length_le (by rw [HMK.out]; exact Nat.le_refl _)]; rfl⟩
        case round =>
          obtain ⟨j, hj, rfl, rfl⟩ := hrel
          cases j with
          | zero =>
            rw [List.drop_zero]
            simp only [Int.natCast_zero, Int.zero_sub]
            have i2 : (k : Int) ≤ (cap : Int) := by omega
            have i3 : (len : Int) ≤ (cap : Int) := by omega
            have i4 : (k : Int) ≤ (len : Int) := by omega
            go_wp2_with fail
            by_cases hkc : k < cap
            · have hkc' : (k : Int) < (cap : Int) := by omega
              go_quiet (fail)
              go_wp2_with fail
              go_ret3
              exact ⟨_, _, _, by rw [HMM.out]; rfl, ⟨by rw [List.length_drop, HN.out], by omega, by have := HM.out; omega, HR.out.drop k⟩, grown_drewN _ _⟩
            · have hkc' : ¬ (k : Int) < (cap : Int) := by omega
              go_quiet (fail)
              go_wp2_with fail
              go_ret3
              refine ⟨_, _, _, by rw [HMM.out]; rfl, ⟨by rw [List.length_drop, HN.out], by omega, by have := HM.out; omega, ?_⟩, grown_drewN _ _⟩
              rw [List.drop_of_length_le (by rw [HN.out]; omega)]
              exact RX.nil _ _ _
          | succ j =>
            rw [show (((j + 1 : Nat) : Int) - 1) = (j : Int) by omega]
            have hv := valN_drop m j (by rw [HMK.out]; omega)
            have hlt := valN_le m k j HMK.out hk8
            obtain ⟨b, o, rfl, hcl⟩ := HR.out.rb.get j (by rw [HN.out]; omega)
            have hml : l.getD j 0 = m.getD j 0 := by
              rw [← HMM.out, List.getD_eq_getElem?_getD, List.getD_eq_getElem?_getD, List.getElem?_take, if_pos (by omega)]
            rw [hml] at hcl
            obtain ⟨c, hcc⟩ : ∃ c, m.getD j 0 = c := ⟨_, rfl⟩
            rw [hcc] at hcl hv
            have hcl' : w.cell? ⟨b, o + j, none⟩ = some (.int .u8 (c.toNat : Int)) := hcl
            have hc8 := c.toNat_lt
            generalize valN (m.drop (j + 1)) = V at *
            generalize hz : valN (m.drop j) = Z at *
            have hw1 : IntKind.u64.wrap ((V : Int) * 256) = (V : Int) * 256 := wrap_u64 _ (by omega) (by omega)
            have hw2 : IntKind.u64.wrap ((V : Int) * 256 + (c.toNat : Int)) = (Z : Int) := by rw [wrap_u64 _ (by omega) (by omega)]; omega
            have HZ := Lib.hid hz
            clear hv hlt hml hcc hcl hz
            have i0 : (0 : Int) ≤ (j : Int) := by omega
            have i1 : (j : Int) < (len : Int) := by omega
            go_wp2_with fail
            exact ⟨⟨j, by omega, rfl, by rw [HZ.out]⟩, by simp only [intOf]; omega⟩

set_option maxHeartbeats 1600000 in
theorem ref_getbytes {X : Nat → Prop} (a : Option Addr) (len cap : Nat) (l : List UInt8) (most : Int) (w : World) (hs : RS w X a len cap l) :
    Calls Try.prog 74 #[.slice a len cap, .int .i64 most] w (GetBytesPost w X (getBytes l most)) := by
  have HC := Lib.hid (ref_getnum a len cap l 2 w hs)
  have HLT := Lib.hid (getNum_lt l 2)
  clear hs
  unfold getBytes
  obtain ⟨⟨x, l1, e1⟩, ht⟩ : ∃ t, getNum l 2 = t := ⟨_, rfl⟩
  rw [ht] at HC HLT ⊢
  clear ht
  simp only
  have hx : x < 65536 := HLT.out
  clear HLT
  have hwx : IntKind.i64.wrap (x : Int) = (x : Int) := wrap_small _ (by omega) (by omega)
  have HX := Lib.hid hx
  clear hx
  by_cases he : e1 = 0
  · subst he
    rw [if_neg (by simp)]
    by_cases hm : most < (x : Int)
    · rw [if_pos hm]
      go_enter Try.func74, Try.ntmps74
      go_wp2_with fail
      refine HC.out.mono ?_
      rintro r w1 ⟨r1, n1, c1, rfl, hrs, hg⟩
      have HG := Lib.hid hg
      clear hrs hg HC
      go_wp2_with fail
      go_ret3
      exact ⟨none, 0, 0, none, 0, 0, rfl, RS.none _ _, RS.none _ _, HG.out⟩
    · rw [if_neg hm]
      by_cases hl : l1.length < x
      · rw [if_pos hl]
        go_enter Try.func74, Try.ntmps74
        go_wp2_with fail
        refine HC.out.mono ?_
        rintro r w1 ⟨r1, n1, c1, rfl, hrs, hg⟩
        have HG := Lib.hid hg; have HRS := Lib.hid hrs
        have hle := hrs.le
        have hl1 : (n1 : Int) < (x : Int) := by have := hrs.len; simp only at this; omega
        clear hrs hg HC
        go_wp2_with fail
        go_ret3
        exact ⟨none, 0, 0, none, 0, 0, rfl, RS.none _ _, RS.none _ _, HG.out⟩
      · rw [if_neg hl]
        go_enter Try.func74, Try.ntmps74
        go_wp2_with fail
        refine HC.out.mono ?_
        rintro r w1 ⟨r1, n1, c1, rfl, hrs, hg⟩
        have HG := Lib.hid hg; have HRS := Lib.hid hrs
        have hle := hrs.le
        have hl1 : (x : Int) ≤ (n1 : Int) := by have := hrs.len; simp only at this; omega
        clear hrs hg HC
        have i2 : (n1 : Int) ≤ (c1 : Int) := by omega
        have i3 : (x : Int) ≤ (c1 : Int) := by omega
        have i0 : (0 : Int) ≤ (x : Int) := by omega
        by_cases hkc : (x : Int) < (c1 : Int)
        · go_wp2_with fail
          go_quiet (fail)
          go_wp2_with fail
          go_ret3
          exact ⟨_, _, _, _, _, _, rfl, ⟨by rw [List.length_take, HRS.out.len]; omega, by omega, HRS.out.max, HRS.out.rx.take x⟩, ⟨by rw [List.length_drop, HRS.out.len], by omega, by have := HRS.out.max; omega, HRS.out.rx.drop x⟩, grown_trans HG.out (grown_drewN _ _)⟩
        · go_wp2_with fail
          go_quiet (fail)
          go_wp2_with fail
          go_ret3
          refine ⟨_, _, _, _, _, _, rfl, ⟨by rw [List.length_take, HRS.out.len]; omega, by omega, HRS.out.max, HRS.out.rx.take x⟩, ⟨by rw [List.length_drop, HRS.out.len], by omega, by have := HRS.out.max; omega, ?_⟩, grown_trans HG.out (grown_drewN _ _)⟩
          rw [List.drop_of_length_le (by rw [HRS.out.len]; omega)]
          exact RX.nil _ _ _
  · rw [if_pos he]
    have he' : (e1 != 0) = true := by simp [he]
    go_enter Try.func74, Try.ntmps74
    go_wp2_with fail
    refine HC.out.mono ?_
    rintro r w1 ⟨r1, n1, c1, rfl, hrs, hg⟩
    have HG := Lib.hid hg
    clear hrs hg HC
    go_wp2_with fail
    go_ret3
    exact ⟨none, 0, 0, none, 0, 0, rfl, RS.none _ _, RS.none _ _, HG.out⟩

end Go.Proofs.Ytomnhgcjdnhijaa
