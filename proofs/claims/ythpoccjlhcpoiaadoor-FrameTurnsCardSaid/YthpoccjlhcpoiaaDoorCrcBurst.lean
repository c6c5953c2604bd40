/-
  A text in which bits of a window of 32 are turned has another register: plain Lean, no program in sight.
-/
import Derived.Test.YthpoccjlhcpoiaaDoorCrcPure
namespace Go.Proofs.YthpoccjlhcpoiaaDoor

theorem poly_top : poly.getLsbD 31 = true := by decide
theorem bit1_inj (x : R) (h : bit1 x = 0) : x = 0 := by
  unfold bit1 at h
  cases hx : x.getLsbD 0
  · rw [hx] at h
    simp only [Bool.false_eq_true, if_false] at h
    apply BitVec.eq_of_getLsbD_eq
    intro i hi
    cases i with
    | zero => rw [hx]; simp
    | succ i =>
      have := congrArg (fun y : R => y.getLsbD i) h
      simp only [BitVec.getLsbD_ushiftRight] at this
      rw [show i + 1 = 1 + i by omega, this]; simp
  · rw [hx] at h
    simp only [if_true] at h
    have := congrArg (fun y : R => y.getLsbD 31) h
    simp only [BitVec.getLsbD_xor, BitVec.getLsbD_ushiftRight, poly_top, BitVec.getLsbD_of_ge x (1 + 31) (by omega)] at this
    simp at this
theorem bitN_inj (n : Nat) : ∀ x : R, bitN n x = 0 → x = 0 := by
  induction n with
  | zero => intro x h; exact h
  | succ n ih => intro x h; exact bit1_inj x (ih _ h)

theorem bitN_one : ∀ i : Fin 32, bitN i.val (BitVec.twoPow 32 i.val) = 1 := by decide +kernel

theorem moreB_more (l : List UInt8) : ∀ u v : R, moreB (u ^^^ v) l = moreB u l ^^^ bitN (8 * l.length) v := by
  induction l with
  | nil => intro u v; rfl
  | cons c l ih =>
    intro u v
    have h : byteB (u ^^^ v) c = byteB u c ^^^ bitN 8 v := by
      unfold byteB
      rw [BitVec.xor_assoc, BitVec.xor_comm v, ← BitVec.xor_assoc, bitN_xor]
    simp only [moreB, List.foldl_cons, List.length_cons] at *
    rw [h, ih, Nat.mul_succ, Nat.add_comm (8 * l.length) 8, bitN_add]

/-- a text with bit k turned -/
def turn (l : List UInt8) (k : Nat) : List UInt8 := l.set (k / 8) (l.getD (k / 8) 0 ^^^ (1 <<< UInt8.ofNat (k % 8)))
theorem turn_length (l : List UInt8) (k : Nat) : (turn l k).length = l.length := by unfold turn; simp

theorem ext_bit : ∀ r : Fin 8, ext (1 <<< UInt8.ofNat r.val) = BitVec.twoPow 32 r.val := by decide

theorem moreB_turn (l : List UInt8) (k : Nat) (x : R) (h : k < 8 * l.length) : moreB x (turn l k) = moreB x l ^^^ bitN (8 * l.length - k) 1 := by
  have hj : k / 8 < l.length := by omega
  obtain ⟨pre, c, post, hl, hp⟩ : ∃ pre c post, l = pre ++ c :: post ∧ pre.length = k / 8 :=
    ⟨l.take (k / 8), l[k / 8], l.drop (k / 8 + 1), by rw [List.getElem_cons_drop, List.take_append_drop], by rw [List.length_take]; omega⟩
  subst hl
  have ht : turn (pre ++ c :: post) k = pre ++ (c ^^^ (1 <<< UInt8.ofNat (k % 8))) :: post := by
    unfold turn
    rw [← hp]
    simp
  rw [ht, moreB_append, moreB_append]
  generalize moreB x pre = y
  have h8 : k % 8 < 8 := by omega
  have e := ext_bit ⟨k % 8, h8⟩
  simp only at e
  have hb : byteB y (c ^^^ (1 <<< UInt8.ofNat (k % 8))) = byteB y c ^^^ bitN 8 (BitVec.twoPow 32 (k % 8)) := by
    unfold byteB
    rw [ext_xor, e, ← BitVec.xor_assoc, bitN_xor]
  have h1 : bitN 8 (BitVec.twoPow 32 (k % 8)) = bitN (8 - k % 8) 1 := by
    have := bitN_add (k % 8) (8 - k % 8) (BitVec.twoPow 32 (k % 8))
    rw [show k % 8 + (8 - k % 8) = 8 by omega] at this
    rw [this, bitN_one ⟨k % 8, by omega⟩]
  simp only [moreB, List.foldl_cons]
  have hm := moreB_more post (byteB y c) (bitN (8 - k % 8) 1)
  unfold moreB at hm
  rw [hb, h1, hm, ← bitN_add]
  congr 2
  simp only [List.length_append, List.length_cons]
  omega

/-- WHAT HOLDS BEHIND i ROUNDS: of the text b that was, at k0; 'E' has the bits of the window that were turned. -/
structure Turned (b : List UInt8) (k0 i : Nat) (c : List UInt8) (t : Nat) (E : R) : Prop where
  len : c.length = b.length
  reg : ∀ x, moreB x c = moreB x b ^^^ bitN (8 * b.length - k0) E
  high : ∀ j, i ≤ j → E.getLsbD j = false
  zero : t = 0 ↔ E = 0
  few : t ≤ i

theorem Turned.start (b : List UInt8) (k0 : Nat) : Turned b k0 0 b 0 0 :=
  ⟨rfl, fun x => by rw [bitN_zero]; exact BitVec.xor_zero.symm, fun j _ => by simp, by simp, Nat.le_refl _⟩
theorem Turned.skip {b c : List UInt8} {k0 i t : Nat} {E : R} (h : Turned b k0 i c t E) : Turned b k0 (i + 1) c t E :=
  ⟨h.len, h.reg, fun j hj => h.high j (by omega), h.zero, by have := h.few; omega⟩
theorem Turned.turn {b c : List UInt8} {k0 i t : Nat} {E : R} (h : Turned b k0 i c t E) (hi : i < 32) (hk : k0 + i < 8 * b.length) : Turned b k0 (i + 1) (turn c (k0 + i)) (t + 1) (E ^^^ BitVec.twoPow 32 i) := by
  have hE : (E ^^^ BitVec.twoPow 32 i).getLsbD i = true := by
    rw [BitVec.getLsbD_xor, h.high i (Nat.le_refl _), BitVec.getLsbD_twoPow]; simp [hi]
  refine ⟨by rw [turn_length, h.len], fun x => ?_, fun j hj => ?_, ?_, by have := h.few; omega⟩
  · rw [moreB_turn c (k0 + i) x (by rw [h.len]; exact hk), h.reg, bitN_xor, h.len, ← BitVec.xor_assoc]
    congr 1
    have := bitN_add i (8 * b.length - (k0 + i)) (BitVec.twoPow 32 i)
    rw [show i + (8 * b.length - (k0 + i)) = 8 * b.length - k0 by omega, bitN_one ⟨i, hi⟩] at this
    exact this.symm
  · rw [BitVec.getLsbD_xor, h.high j (by omega), BitVec.getLsbD_twoPow]
    simp only [Bool.false_bne]
    rw [decide_eq_false (by omega : ¬ i = j)]
    simp
  · constructor
    · intro h0; omega
    · intro h0; rw [h0] at hE; simp at hE

theorem Turned.sums {b c : List UInt8} {k0 i t : Nat} {E : R} (h : Turned b k0 i c t E) : sumF c = sumF b ↔ t = 0 := by
  rw [sumF_bv, sumF_bv, h.zero]
  have e : ((sumR c).toNat : Int) = ((sumR b).toNat : Int) ↔ sumR c = sumR b :=
    ⟨fun h => BitVec.eq_of_toNat_eq (by omega), fun h => by rw [h]⟩
  rw [e]
  unfold sumR moreR
  rw [h.reg]
  generalize moreB (~~~ 0) b = y
  constructor
  · intro h1
    have h2 : y ^^^ bitN (8 * b.length - k0) E = y := by
      have := congrArg (fun z : R => ~~~ z) h1
      simpa using this
    have h3 : bitN (8 * b.length - k0) E = 0 := by
      have := congrArg (fun z : R => y ^^^ z) h2
      simp only [BitVec.xor_self] at this
      rw [← BitVec.xor_assoc, BitVec.xor_self, BitVec.zero_xor] at this
      exact this
    exact bitN_inj _ _ h3
  · intro h1
    rw [h1, bitN_zero]; exact congrArg (fun z : R => ~~~ z) BitVec.xor_zero


end Go.Proofs.YthpoccjlhcpoiaaDoor
