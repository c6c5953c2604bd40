/-
  The walks through the package wire: 'Int', 'Bool', 'Bytes', 'End' of the reader.
-/
import Derived.Test.YtomnhgcjdnhijaaWireRNum
namespace Go.Proofs.Ytomnhgcjdnhijaa
open Go.RowKit

theorem wire_rint {w : World} {g : Nat} {X : Nat → Prop} {e : Int} {l : List UInt8} (R : ReaderAt w g X e l) :
    Calls Try.prog 46 #[.pointer (some ⟨g, 0, none⟩)] w fun r w' =>
      r = .returned (.int .i64 (wrap64 ((numR e l 8).1 : Int))) ∧ ReaderAt w' g X (numR e l 8).2.1 (numR e l 8).2.2 ∧ w.grownBy w' (some g) := by
  have HC := Lib.hid (wire_rnum R 8)
  clear R
  go_enter Try.func46, Try.ntmps46
  go_wp2_with fail
  refine HC.out.mono ?_
  rintro r w1 ⟨rfl, hp, hg⟩
  have HP := Lib.hid hp; have HG := Lib.hid hg
  clear hp hg HC
  go_wp2_with fail
  go_ret
  exact ⟨rfl, HP.out, HG.out⟩
theorem wire_rint_nil (w : World) :
    Calls Try.prog 46 #[.pointer none] w fun r w' => r = .returned (.int .i64 0) ∧ w = w' := by
  go_enter Try.func46, Try.ntmps46
  go_wp2_with fail
  refine (wire_rnum_nil w 8).mono ?_
  rintro r w1 ⟨rfl, rfl⟩
  go_wp2_with fail
  go_ret
  exact ⟨rfl, rfl⟩

/-- what 'Bool' does: the truth, what is wrong, what is left -/
def boolR (e : Int) (l : List UInt8) : Bool × Int × List UInt8 :=
  ((numR e l 1).1 == 1, if 1 < (numR e l 1).1 then (if (numR e l 1).2.1 = 0 then 8 else (numR e l 1).2.1) else (numR e l 1).2.1, (numR e l 1).2.2)

/-- what 'Bytes' does: the bytes, what is wrong, what is left -/
def bytesR (e : Int) (l : List UInt8) (most : Int) : List UInt8 × Int × List UInt8 :=
  let t := numR e l 2
  if t.2.1 ≠ 0 then ([], t.2) else if most < t.1 then ([], 7, t.2.2) else takeR 0 t.2.2 t.1

theorem wire_rbytes {w : World} {g : Nat} {X : Nat → Prop} {e : Int} {l : List UInt8} (R : ReaderAt w g X e l) (most : Int) :
    Calls Try.prog 55 #[.pointer (some ⟨g, 0, none⟩), .int .i64 most] w (TakePost w g X (bytesR e l most)) := by
  have HC := Lib.hid (wire_rnum R 2)
  clear R
  have hlt : (numR e l 2).1 < 65536 := by
    unfold numR
    rw [if_neg (by omega)]
    simp only
    refine Nat.lt_of_lt_of_le (valN_lt _) ?_
    have : (takeR e l (2 : Int).toNat).1.length ≤ 2 := by
      unfold takeR
      split
      · simp
      · split
        · simp
        · simp; omega
    exact Nat.le_trans (Nat.pow_le_pow_right (by decide) (show 8 * _ ≤ 16 by omega)) (by decide)
  unfold bytesR
  obtain ⟨⟨x, e1, l1⟩, ht⟩ : ∃ t, numR e l 2 = t := ⟨_, rfl⟩
  rw [ht] at HC hlt ⊢
  clear ht
  simp only at hlt ⊢
  have hwx : IntKind.i64.wrap (x : Int) = (x : Int) := wrap_small _ (by omega) (by omega)
  by_cases h1 : e1 = 0
  · subst h1
    rw [if_neg (by simp)]
    by_cases hm : most < (x : Int)
    · rw [if_pos hm]
      go_enter Try.func55, Try.ntmps55
      go_wp2_with fail
      refine HC.out.mono ?_
      rintro r w1 ⟨rfl, hp, hg⟩
      have HP := Lib.hid hp; have HG := Lib.hid hg
      clear hp hg HC
      go_wp2_with fail
      obtain ⟨a, m, c, hb, hm, hmc, hcx, hr⟩ := HP.out.box
      have HB := Lib.hid hb; have HM := Lib.hid hm; have HCX := Lib.hid hcx; have HRX := Lib.hid hr; have HMC := Lib.hid hmc
      clear hb hm hmc hcx hr
      refine (wire_fine HB.out).mono ?_
      rintro r w2 ⟨rfl, rfl⟩
      go_wp2_with fail
      refine (wire_wrong HB.out 7).mono ?_
      rintro r w2 ⟨rfl, hb2, hg2⟩
      have HR2 := Lib.hid (show ReaderAt w2 g X 7 l1 from ⟨HP.out.self, a, m, c, by simpa using hb2, HM.out, HMC.out, HCX.out, HRX.out.kept (Kept.of_row hg2 HP.out.self)⟩)
      have HG2 := Lib.hid (grown_same HG.out hg2)
      clear hb2 hg2
      go_wp2_with fail
      go_ret
      exact ⟨none, 0, 0, rfl, rfl, RX.nil _ _ _, HR2.out, HG2.out⟩
    · rw [if_neg hm]
      go_enter Try.func55, Try.ntmps55
      go_wp2_with fail
      refine HC.out.mono ?_
      rintro r w1 ⟨rfl, hp, hg⟩
      have HP := Lib.hid hp; have HG := Lib.hid hg
      clear hp hg HC
      go_wp2_with fail
      obtain ⟨a, m, c, hb, _⟩ := HP.out.box
      have HB := Lib.hid hb
      clear hb
      refine (wire_fine HB.out).mono ?_
      rintro r w2 ⟨rfl, rfl⟩
      go_wp2_with fail
      refine (wire_take HP.out x).mono ?_
      rintro r w2 ⟨a, n, c, rfl, hlen, hrx, hR, hg⟩
      have HL := Lib.hid hlen; have HX := Lib.hid hrx; have HRD := Lib.hid hR; have HG2 := Lib.hid (grown_same HG.out hg)
      clear hlen hrx hR hg
      go_wp2_with fail
      go_ret
      exact ⟨a, n, c, rfl, HL.out, HX.out, HRD.out, HG2.out⟩
  · rw [if_pos h1]
    have h' : (e1 == 0) = false := by simpa using h1
    go_enter Try.func55, Try.ntmps55
    go_wp2_with fail
    refine HC.out.mono ?_
    rintro r w1 ⟨rfl, hp, hg⟩
    have HP := Lib.hid hp; have HG := Lib.hid hg
    clear hp hg HC
    go_wp2_with fail
    obtain ⟨a, m, c, hb, _⟩ := HP.out.box
    have HB := Lib.hid hb
    clear hb
    refine (wire_fine HB.out).mono ?_
    rintro r w2 ⟨rfl, rfl⟩
    go_wp2_with fail
    go_ret
    exact ⟨none, 0, 0, rfl, rfl, RX.nil _ _ _, HP.out, HG.out⟩
theorem wire_rbytes_nil (w : World) (n : Int) :
    Calls Try.prog 55 #[.pointer none, .int .i64 n] w fun r w' => r = .returned (.slice none 0 0) ∧ w = w' := by
  go_enter Try.func55, Try.ntmps55
  go_wp2_with fail
  refine (wire_rnum_nil w 2).mono ?_
  rintro r w1 ⟨rfl, rfl⟩
  go_wp2_with fail
  go_ret
  exact ⟨rfl, rfl⟩

/-- what 'End' tells -/
def endR (e : Int) (l : List UInt8) : Int := if e = 0 then (if l = [] then 0 else 8) else e
theorem wire_end {w : World} {g : Nat} {X : Nat → Prop} {e : Int} {l : List UInt8} (R : ReaderAt w g X e l) :
    Calls Try.prog 47 #[.pointer (some ⟨g, 0, none⟩)] w fun r w' => r = .returned (.int .i64 (endR e l)) ∧ w = w' := by
  have HR := Lib.hid R
  clear R
  have hx : endR e l = if 0 < (if e = 0 then (l.length : Int) else 0) then 8 else e := by
    unfold endR
    by_cases h : e = 0
    · subst h
      cases l with
      | nil => simp
      | cons c l => simp
    · simp [h]
  rw [hx]
  clear hx
  obtain ⟨z, hz⟩ : ∃ z, (if e = 0 then (l.length : Int) else 0) = z := ⟨_, rfl⟩
  have HL := Lib.hid (wire_left HR.out)
  rw [hz] at HL ⊢
  clear hz
  by_cases h : 0 < z
  · rw [if_pos h]
    go_enter Try.func47, Try.ntmps47
    go_wp2_with fail
    refine HL.out.mono ?_
    rintro r w1 ⟨rfl, rfl⟩
    go_wp2_with fail
    go_ret
    exact ⟨rfl, rfl⟩
  · rw [if_neg h]
    go_enter Try.func47, Try.ntmps47
    go_wp2_with fail
    refine HL.out.mono ?_
    rintro r w1 ⟨rfl, rfl⟩
    go_wp2_with fail
    refine (wire_err HR.out).mono ?_
    rintro r w1 ⟨rfl, rfl⟩
    go_wp2_with fail
    go_ret
    exact ⟨rfl, rfl⟩

end Go.Proofs.Ytomnhgcjdnhijaa
