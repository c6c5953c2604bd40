/-
  The walks through the package wire: 'take' of the reader.
-/
import Derived.Test.YtomnhgcjdnhijaaWireRead
namespace Go.Proofs.Ytomnhgcjdnhijaa
open Go.RowKit

/-- what 'take' does: what is taken, what is wrong, what is left -/
def takeR (e : Int) (l : List UInt8) (n : Nat) : List UInt8 × Int × List UInt8 :=
  if e ≠ 0 then ([], e, l) else if l.length < n then ([], 6, l) else (l.take n, 0, l.drop n)

def TakePost (w : World) (g : Nat) (X : Nat → Prop) (t : List UInt8 × Int × List UInt8) (r : Ending) (w' : World) : Prop :=
  ∃ a n c, r = .returned (.slice a n c) ∧ t.1.length = n ∧ RX w' X a t.1 ∧ ReaderAt w' g X t.2.1 t.2.2 ∧ w.grownBy w' (some g)

theorem wire_take_nil (w : World) (n : Int) :
    Calls Try.prog 65 #[.pointer none, .int .i64 n] w fun r w' => r = .returned (.slice none 0 0) ∧ w = w' := by
  go_enter Try.func65, Try.ntmps65
  go_wp2_with fail
  go_ret
  exact ⟨rfl, rfl⟩

theorem RX.drop {w : World} {X : Nat → Prop} {a : Option Addr} {l : List UInt8} (h : RX w X a l) (n : Nat) : RX w X (Option.map (fun x => x.add n) a) (l.drop n) := by
  intro i hi
  rw [List.length_drop] at hi
  obtain ⟨b, o, e, hx, hc⟩ := h (n + i) (by omega)
  subst e
  refine ⟨b, o + n, by simp [Addr.add_lit], hx, ?_⟩
  rw [List.getElem_drop, Nat.add_assoc]
  exact hc
theorem RX.take {w : World} {X : Nat → Prop} {a : Option Addr} {l : List UInt8} (h : RX w X a l) (n : Nat) : RX w X a (l.take n) := by
  intro i hi
  rw [List.length_take] at hi
  obtain ⟨b, o, e, hx, hc⟩ := h i (by omega)
  exact ⟨b, o, e, hx, by rw [List.getElem_take]; exact hc⟩

set_option maxHeartbeats 1600000 in
theorem wire_take {w : World} {g : Nat} {X : Nat → Prop} {e : Int} {l : List UInt8} (R : ReaderAt w g X e l) (n : Nat) :
    Calls Try.prog 65 #[.pointer (some ⟨g, 0, none⟩), .int .i64 n] w (TakePost w g X (takeR e l n)) := by
  obtain ⟨a, m, c, hb, hm, hmc, hcx, hr⟩ := R.box
  have c0 := hb.cell 0 rfl
  have c1 := hb.cell 1 rfl
  have f1 := hb.free 1
  have HB := Lib.hid hb; have HM := Lib.hid hm; have HR := Lib.hid hr; have HC := Lib.hid hcx
  have HRR := Lib.hid R; have HS := Lib.hid R.self
  clear R hb hm hr hcx
  by_cases h : e = 0
  · subst h
    by_cases hl : (m : Int) < (n : Int)
    · go_enter Try.func65, Try.ntmps65
      go_wp2_with fail
      refine (wire_fine HB.out).mono ?_
      rintro r w1 ⟨rfl, rfl⟩
      go_wp2_with fail
      refine (wire_wrong HB.out 6).mono ?_
      rintro r w1 ⟨rfl, hb, hg⟩
      have HB1 := Lib.hid hb; have HG1 := Lib.hid hg
      clear hb hg
      go_wp2_with fail
      go_ret
      have hx : takeR 0 l n = ([], 6, l) := by unfold takeR; rw [if_neg (by simp), if_pos (by rw [HM.out]; omega)]
      rw [hx]
      exact ⟨none, 0, 0, rfl, rfl, RX.nil _ _ _, ⟨HS.out, a, m, c, by simpa using HB1.out, HM.out, hmc, HC.out, HR.out.kept (Kept.of_row HG1.out HS.out)⟩, HG1.out⟩
    · have i0 : (0 : Int) ≤ (n : Int) := by omega
      have i1 : (n : Int) ≤ (m : Int) := by omega
      have i2 : (n : Int) ≤ (c : Int) := by omega
      go_enter Try.func65, Try.ntmps65
      go_wp2_with fail
      refine (wire_fine HB.out).mono ?_
      rintro r w1 ⟨rfl, rfl⟩
      have hx : takeR 0 l n = (l.take n, 0, l.drop n) := by unfold takeR; rw [if_neg (by simp), if_neg (by rw [HM.out]; omega)]
      go_wp2_with fail
      all_goals go_ret
      all_goals refine ⟨a, n, n, rfl, by rw [List.length_take, HM.out]; omega, (HR.out.take n).kept (Kept.of_row (grown_setCell _ _ _ _) HS.out), ⟨HS.out, _, _, _, HB.out.set 1 _, by rw [List.length_drop, HM.out], by omega, by have := HC.out; omega, ?_⟩, grown_setCell _ _ _ _⟩
      · have h0 : l.drop n = [] := List.eq_nil_of_length_eq_zero (by rw [List.length_drop, HM.out]; omega)
        rw [h0]
        exact RX.nil _ _ _
      · exact (HR.out.drop n).kept (Kept.of_row (grown_setCell _ _ _ _) HS.out)
  · have h' : (e == 0) = false := by simpa using h
    go_enter Try.func65, Try.ntmps65
    go_wp2_with fail
    refine (wire_fine HB.out).mono ?_
    rintro r w1 ⟨rfl, rfl⟩
    go_wp2_with fail
    go_ret
    have hx : takeR e l n = ([], e, l) := by unfold takeR; rw [if_pos h]
    rw [hx]
    exact ⟨none, 0, 0, rfl, rfl, RX.nil _ _ _, HRR.out, World.grownBy.refl _ _⟩

end Go.Proofs.Ytomnhgcjdnhijaa
