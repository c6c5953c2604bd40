/-
  The walks through the package wire: 'Num' of the reader.
-/
import Derived.Test.YtomnhgcjdnhijaaWireTake
import Derived.Laws.BitsAllLaws
namespace Go.Proofs.Ytomnhgcjdnhijaa
open Go.RowKit

/-- the number that bytes say, the lowest first -/
def valN : List UInt8 → Nat
  | [] => 0
  | c :: l => c.toNat + 256 * valN l
theorem valN_lt (l : List UInt8) : valN l < 2 ^ (8 * l.length) := by
  induction l with
  | nil => simp [valN]
  | cons c l ih =>
    have := c.toNat_lt
    rw [valN, List.length_cons, Nat.mul_add, Nat.pow_add]
    omega
theorem valN_snoc (l : List UInt8) (c : UInt8) : valN (l ++ [c]) = valN l + c.toNat * 2 ^ (8 * l.length) := by
  induction l with
  | nil => simp [valN]
  | cons d l ih =>
    rw [List.cons_append, valN, ih, valN, List.length_cons, Nat.mul_add 8, Nat.pow_add]
    have : c.toNat * (2 ^ (8 * l.length) * 2 ^ (8 * 1)) = 256 * (c.toNat * 2 ^ (8 * l.length)) := by
      rw [show 2 ^ (8 * 1) = 256 from rfl, Nat.mul_comm (2 ^ (8 * l.length)) 256, ← Nat.mul_assoc, ← Nat.mul_assoc, Nat.mul_comm c.toNat 256]
    omega

/-- a byte put over those below it -/
theorem or_step (v u j : Nat) (hj : j < 8) (hu : u < 256) (hv : v < 2 ^ (8 * j)) : bits .or .u64 (v : Int) (IntKind.u64.wrap ((u : Int) * 2 ^ (8 * j))) = ((v + u * 2 ^ (8 * j) : Nat) : Int) := by
  have hp : 2 ^ (8 * j) ≤ 2 ^ 56 := Nat.pow_le_pow_right (by decide) (by omega)
  have hp' : (2 : Nat) ^ 56 = 72057594037927936 := by decide
  have hm : u * 2 ^ (8 * j) ≤ 255 * 72057594037927936 := Nat.mul_le_mul (by omega) (by omega)
  have e : IntKind.u64.wrap ((u : Int) * 2 ^ (8 * j)) = ((u * 2 ^ (8 * j) : Nat) : Int) := by
    rw [show ((u : Int) * 2 ^ (8 * j)) = ((u * 2 ^ (8 * j) : Nat) : Int) by push_cast; rfl]
    have : ((u * 2 ^ (8 * j) : Nat) : Int) < 18446744073709551616 := by omega
    have h0 : (0 : Int) ≤ ((u * 2 ^ (8 * j) : Nat) : Int) := by omega
    generalize ((u * 2 ^ (8 * j) : Nat) : Int) = z at *
    simp [IntKind.wrap, IntKind.signed, IntKind.bits]
    omega
  rw [e, u64_or_nat v (u * 2 ^ (8 * j)) (by omega) (by omega), Nat.or_comm, ← Nat.shiftLeft_eq, ← Nat.shiftLeft_add_eq_or_of_lt hv, Nat.add_comm]

theorem wire_rnum_nil (w : World) (n : Int) :
    Calls Try.prog 44 #[.pointer none, .int .i64 n] w fun r w' => r = .returned (.int .u64 0) ∧ w = w' := by
  go_enter Try.func44, Try.ntmps44
  go_wp2_with fail
  go_ret
  exact ⟨rfl, rfl⟩

/-- what 'Num' does: the number, what is wrong, what is left -/
def numR (e : Int) (l : List UInt8) (n : Int) : Nat × Int × List UInt8 :=
  if n < 1 ∨ 8 < n then (0, if e = 0 then 1 else e, l) else let t := takeR e l n.toNat; (valN t.1, t.2)

def RNumPost (w : World) (g : Nat) (X : Nat → Prop) (t : Nat × Int × List UInt8) (r : Ending) (w' : World) : Prop :=
  r = .returned (.int .u64 t.1) ∧ ReaderAt w' g X t.2.1 t.2.2 ∧ w.grownBy w' (some g)

set_option maxHeartbeats 1600000 in
theorem wire_rnum {w : World} {g : Nat} {X : Nat → Prop} {e : Int} {l : List UInt8} (R : ReaderAt w g X e l) (n : Int) :
    Calls Try.prog 44 #[.pointer (some ⟨g, 0, none⟩), .int .i64 n] w (RNumPost w g X (numR e l n)) := by
  have HR := Lib.hid R
  clear R
  by_cases h1 : n < 1 ∨ 8 < n
  · have hx : numR e l n = (0, if e = 0 then 1 else e, l) := by unfold numR; rw [if_pos h1]
    obtain ⟨z, hz⟩ : ∃ z, (if e = 0 then (1 : Int) else e) = z := ⟨_, rfl⟩
    rw [hx, hz]
    obtain ⟨a, m, c, hb, hm, hmc, hcx, hr⟩ := HR.out.box
    have HB := Lib.hid hb; have HM := Lib.hid hm; have HRX := Lib.hid hr; have HCX := Lib.hid hcx
    have HZ := Lib.hid hz
    clear hb hm hr hcx
    clear hz
    by_cases h0 : n < 1
    · go_enter Try.func44, Try.ntmps44
      go_wp2_with fail
      refine (wire_wrong HB.out 1).mono ?_
      rintro r w1 ⟨rfl, hb, hg⟩
      rw [HZ.out] at hb
      have HB1 := Lib.hid hb; have HG1 := Lib.hid hg
      clear hb hg
      go_wp2_with fail
      go_ret
      exact ⟨rfl, ReaderAt.mk HR.out.self ⟨a, m, c, HB1.out, HM.out, hmc, HCX.out, HRX.out.kept (Kept.of_row HG1.out HR.out.self)⟩, HG1.out⟩
    · have h8 : 8 < n := by omega
      go_enter Try.func44, Try.ntmps44
      go_wp2_with fail
      refine (wire_wrong HB.out 1).mono ?_
      rintro r w1 ⟨rfl, hb, hg⟩
      rw [HZ.out] at hb
      have HB1 := Lib.hid hb; have HG1 := Lib.hid hg
      clear hb hg
      go_wp2_with fail
      go_ret
      exact ⟨rfl, ReaderAt.mk HR.out.self ⟨a, m, c, HB1.out, HM.out, hmc, HCX.out, HRX.out.kept (Kept.of_row HG1.out HR.out.self)⟩, HG1.out⟩
  · obtain ⟨k, rfl⟩ : ∃ k : Nat, n = k := ⟨n.toNat, by omega⟩
    have i1 : 1 ≤ (k : Int) := by omega
    have i8 : (k : Int) ≤ 8 := by omega
    have hx : numR e l k = (valN (takeR e l k).1, (takeR e l k).2) := by unfold numR; rw [if_neg h1]; rfl
    rw [hx]
    obtain ⟨t, ht⟩ : ∃ t, takeR e l k = t := ⟨_, rfl⟩
    have htl : t.1.length ≤ 8 := by
      rw [← ht]; unfold takeR
      split
      · simp
      · split
        · simp
        · simp; omega
    have HC := Lib.hid (wire_take HR.out k)
    rw [ht] at HC ⊢
    clear h1 hx ht
    go_enter Try.func44, Try.ntmps44
    go_wp2_with fail
    refine HC.out.mono ?_
    rintro r w1 ⟨a, m, c, rfl, hlen, hrx, hR, hg⟩
    have HL := Lib.hid hlen; have HX := Lib.hid hrx; have HRD := Lib.hid hR; have HG := Lib.hid hg
    have hm8 : m ≤ 8 := by omega
    clear hlen hrx hR hg HC HR
    obtain ⟨w9, hw9⟩ : ∃ w9, w9 = w1 := ⟨_, rfl⟩
    subst hw9
    go_wp2_with fail
    go_loopw [5, 24] (fun x i wr => ∃ j : Nat, j ≤ m ∧ i = .int .i64 j ∧ x = .int .u64 (valN (t.1.take j) : Nat) ∧ wr = w9) (fun _ i _ => m - (intOf i).toNat)
    case atStart => exact ⟨0, Nat.zero_le _, rfl, rfl, rfl⟩
    case round =>
      obtain ⟨j, hj, rfl, rfl, rfl⟩ := hrel
      by_cases hlt : j < m
      · obtain ⟨b, o, rfl, hc⟩ := HX.out.rb.get j (by rw [HL.out]; exact hlt)
        obtain ⟨u, hu⟩ : ∃ u, t.1.getD j 0 = u := ⟨_, rfl⟩
        rw [hu] at hc
        have hc' : wr.cell? ⟨b, o + j, none⟩ = some (.int .u8 (u.toNat : Int)) := hc
        have hu8 := u.toNat_lt
        clear hc
        have HU := Lib.hid hu
        clear hu
        have i0 : (0 : Int) ≤ (j : Int) := by omega
        have i1 : (j : Int) < (m : Int) := by omega
        go_wp2_with fail
        go_roundw
        case rel =>
          refine ⟨j + 1, by omega, by go_num, ?_, trivial⟩
          rw [take_snoc (show t.1[j]? = some u by rw [← HU.out, List.getD_eq_getElem?_getD, List.getElem?_eq_getElem (by rw [HL.out]; exact hlt)]; rfl), valN_snoc, List.length_take, Nat.min_eq_left (by rw [HL.out]; omega), or_step _ _ _ (by omega) hu8 (by have := valN_lt (t.1.take j); rw [List.length_take, Nat.min_eq_left (by rw [HL.out]; omega)] at this; exact this)]
        case measure => simp only [intOf]; omega
      · obtain rfl : j = m := by omega
        go_wp2_with fail
        go_ret
        refine ⟨?_, HRD.out, HG.out⟩
        rw [List.take_of_length_le (by rw [HL.out]; exact Nat.le_refl _)]
        rfl

end Go.Proofs.Ytomnhgcjdnhijaa
