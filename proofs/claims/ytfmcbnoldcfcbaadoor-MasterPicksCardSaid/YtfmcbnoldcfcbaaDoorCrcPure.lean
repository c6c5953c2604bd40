/-
  The sum by half bytes is the sum by bits, and it is linear: plain Lean, no program in sight.
-/
import Derived.WalkKit
namespace Go.Proofs.YtfmcbnoldcfcbaaDoor
open Go.RowKit

def halfI : List Int := [0, 498536548, 997073096, 651767980, 1994146192, 1802195444, 1303535960, 1342533948, 3988292384, 4027552580, 3604390888, 3412177804, 2607071920, 2262029012, 2685067896, 3183342108]
def half (i : Int) : Int := halfI.getD i.toNat 0
/-- one half byte, as the walk spells it -/
def nibI (x : Int) : Int := bits .xor .u32 (half (bits .and .u32 x 15)) (x / 16)
def byteI (x c : Int) : Int := nibI (nibI (bits .xor .u32 x c))
def moreI (x : Int) (l : List UInt8) : Int := l.foldl (fun x c => byteI x c.toNat) x
def notI (x : Int) : Int := bits .xor .u32 IntKind.u32.max x
/-- 'More', and 'Sum', as the walk spells them -/
def moreF (s : Int) (l : List UInt8) : Int := notI (moreI (notI s) l)
def sumF (l : List UInt8) : Int := moreF 0 l

/-! the register as a row of 32 bits -/
abbrev R := BitVec 32
def poly : R := 3988292384
/-- one bit -/
def bit1 (x : R) : R := if x.getLsbD 0 then (x >>> 1) ^^^ poly else x >>> 1
def bitN : Nat → R → R
  | 0, x => x
  | n + 1, x => bitN n (bit1 x)
def ext (c : UInt8) : R := BitVec.ofNat 32 c.toNat
def byteB (x : R) (c : UInt8) : R := bitN 8 (x ^^^ ext c)
def moreB (x : R) (l : List UInt8) : R := l.foldl byteB x

theorem xor4 (a b c d : R) : (a ^^^ b) ^^^ (c ^^^ d) = (a ^^^ c) ^^^ (b ^^^ d) := by
  rw [BitVec.xor_assoc, BitVec.xor_assoc, ← BitVec.xor_assoc b c d, BitVec.xor_comm b c, BitVec.xor_assoc c b d]

theorem shr_xor (a b : R) (n : Nat) : (a ^^^ b) >>> n = (a >>> n) ^^^ (b >>> n) := by
  apply BitVec.eq_of_getLsbD_eq
  intro i hi
  simp [BitVec.getLsbD_ushiftRight]

theorem bit1_xor (a b : R) : bit1 (a ^^^ b) = bit1 a ^^^ bit1 b := by
  unfold bit1
  rw [BitVec.getLsbD_xor, shr_xor]
  cases ha : a.getLsbD 0 <;> cases hb : b.getLsbD 0 <;> simp
  · rw [BitVec.xor_assoc]
  · rw [BitVec.xor_assoc, BitVec.xor_assoc, BitVec.xor_comm poly]
  · rw [xor4, BitVec.xor_self, BitVec.xor_zero]

theorem bitN_xor (n : Nat) : ∀ a b : R, bitN n (a ^^^ b) = bitN n a ^^^ bitN n b := by
  induction n with
  | zero => intro a b; rfl
  | succ n ih => intro a b; simp only [bitN]; rw [bit1_xor, ih]

theorem bitN_add (m n : Nat) : ∀ x : R, bitN (m + n) x = bitN n (bitN m x) := by
  induction m with
  | zero => intro x; simp [bitN]
  | succ m ih => intro x; rw [Nat.succ_add]; simp only [bitN]; exact ih _

theorem bit1_zero : bit1 0 = 0 := by decide
theorem bitN_zero (n : Nat) : bitN n 0 = 0 := by
  induction n with
  | zero => rfl
  | succ n ih => simp only [bitN, bit1_zero, ih]

/-- with its low bit away a register is just moved -/
theorem bit1_even (x : R) (h : x.getLsbD 0 = false) : bit1 x = x >>> 1 := by unfold bit1; rw [h]; simp

theorem bit4_high (x : R) (h : ∀ i, i < 4 → x.getLsbD i = false) : bitN 4 x = x >>> 4 := by
  simp only [bitN]
  rw [bit1_even x (h 0 (by omega)), bit1_even (x >>> 1), bit1_even ((x >>> 1) >>> 1), bit1_even (((x >>> 1) >>> 1) >>> 1)]
  · simp only [← BitVec.shiftRight_add]
  all_goals simp only [← BitVec.shiftRight_add, BitVec.getLsbD_ushiftRight]
  · exact h 3 (by omega)
  · exact h 2 (by omega)
  · exact h 1 (by omega)

def halfB (n : Nat) : R := BitVec.ofInt 32 (halfI.getD n 0)
theorem bit4_low : ∀ n : Fin 16, bitN 4 (BitVec.ofNat 32 n.val) = halfB n.val := by decide

theorem bit4 (x : R) : bitN 4 x = halfB (x.toNat % 16) ^^^ (x >>> 4) := by
  have hx : x = (x &&& 15) ^^^ (x &&& ~~~15) := by
    apply BitVec.eq_of_getLsbD_eq
    intro i hi
    simp only [BitVec.getLsbD_xor, BitVec.getLsbD_and, BitVec.getLsbD_not, hi, decide_true, Bool.true_and]
    cases x.getLsbD i <;> cases (15 : R).getLsbD i <;> rfl
  have hlow : x &&& 15 = BitVec.ofNat 32 (x.toNat % 16) := by
    apply BitVec.eq_of_toNat_eq
    rw [BitVec.toNat_and, BitVec.toNat_ofNat]
    rw [show (15 : R).toNat = 2 ^ 4 - 1 from rfl, Nat.and_two_pow_sub_one_eq_mod]
    omega
  have hhigh : ∀ i, i < 4 → (x &&& ~~~15).getLsbD i = false := by
    intro i hi
    have : (15 : R).getLsbD i = true := by
      match i, hi with
      | 0, _ => rfl
      | 1, _ => rfl
      | 2, _ => rfl
      | 3, _ => rfl
    simp only [BitVec.getLsbD_and, BitVec.getLsbD_not, this]
    simp
  have hsh : (x &&& ~~~15) >>> 4 = x >>> 4 := by
    apply BitVec.eq_of_getLsbD_eq
    intro i hi
    simp only [BitVec.getLsbD_ushiftRight, BitVec.getLsbD_and, BitVec.getLsbD_not]
    by_cases h : 4 + i < 32
    · have : (15 : R).getLsbD (4 + i) = false := by
        have e : (15 : R) = BitVec.ofNat 32 (2 ^ 4 - 1) := rfl
        rw [e, BitVec.getLsbD_ofNat, Nat.testBit_two_pow_sub_one]
        simp
      rw [this]; simp [h]
    · simp [h, BitVec.getLsbD_of_ge x (4 + i) (by omega)]
  conv => lhs; rw [hx]
  rw [bitN_xor, hlow, bit4_high _ hhigh, hsh]
  rw [bit4_low ⟨x.toNat % 16, by omega⟩]

/-! from the walk's integers to the register -/
theorem bits_xor (a b : R) : bits .xor .u32 (a.toNat : Int) (b.toNat : Int) = ((a ^^^ b).toNat : Int) := by
  rw [u32_xor_nat _ _ a.isLt b.isLt]; simp
theorem bits_and15 (a : R) : bits .and .u32 (a.toNat : Int) 15 = ((a.toNat % 16 : Nat) : Int) := by
  rw [show (15 : Int) = ((15 : Nat) : Int) from rfl, u32_and_nat _ _ a.isLt (by decide), show (15 : Nat) = 2 ^ 4 - 1 from rfl, Nat.and_two_pow_sub_one_eq_mod]
theorem halfB_toNat : ∀ n : Fin 16, ((halfB n.val).toNat : Int) = half (n.val : Nat) := by decide
theorem nibI_bv (x : R) : nibI (x.toNat : Int) = ((bitN 4 x).toNat : Int) := by
  unfold nibI
  rw [bits_and15, ← halfB_toNat ⟨x.toNat % 16, by omega⟩]
  have : (x.toNat : Int) / (16 : Int) = ((x >>> 4).toNat : Int) := by
    rw [BitVec.toNat_ushiftRight, Nat.shiftRight_eq_div_pow]; rfl
  rw [this, bits_xor, bit4]
theorem ext_toNat (c : UInt8) : (ext c).toNat = c.toNat := by
  unfold ext; rw [BitVec.toNat_ofNat]; have := c.toNat_lt; omega
theorem byteI_bv (x : R) (c : UInt8) : byteI (x.toNat : Int) c.toNat = ((byteB x c).toNat : Int) := by
  unfold byteI byteB
  rw [← ext_toNat c, bits_xor, nibI_bv, nibI_bv, ← bitN_add]
theorem moreI_bv (l : List UInt8) : ∀ x : R, moreI (x.toNat : Int) l = ((moreB x l).toNat : Int) := by
  induction l with
  | nil => intro x; rfl
  | cons c l ih => intro x; simp only [moreI, moreB, List.foldl_cons] at *; rw [byteI_bv]; exact ih _
theorem notI_bv (x : R) : notI (x.toNat : Int) = ((~~~x).toNat : Int) := by
  unfold notI
  rw [show IntKind.u32.max = (((BitVec.allOnes 32).toNat : Nat) : Int) from rfl, bits_xor, BitVec.not_def]

/-- 'More' of a sum that is a register: by bits -/
def moreR (s : R) (l : List UInt8) : R := ~~~ (moreB (~~~ s) l)
def sumR (l : List UInt8) : R := moreR 0 l
theorem moreF_bv (s : R) (l : List UInt8) : moreF (s.toNat : Int) l = ((moreR s l).toNat : Int) := by
  unfold moreF moreR; rw [notI_bv, moreI_bv, notI_bv]
theorem sumF_bv (l : List UInt8) : sumF l = ((sumR l).toNat : Int) := moreF_bv 0 l
theorem sumF_lo (l : List UInt8) : 0 ≤ sumF l ∧ sumF l ≤ 4294967295 := by
  rw [sumF_bv]; have := (sumR l).isLt; omega

/-! laws -/
theorem moreB_append (x : R) (a b : List UInt8) : moreB x (a ++ b) = moreB (moreB x a) b := by unfold moreB; rw [List.foldl_append]
theorem sumR_parts (a b : List UInt8) : moreR (sumR a) b = sumR (a ++ b) := by
  unfold sumR moreR; rw [BitVec.not_not, moreB_append]
theorem moreR_nil (s : R) : moreR s [] = s := by unfold moreR moreB; simp
theorem sumF_parts (a b : List UInt8) : moreF (sumF a) b = sumF (a ++ b) := by
  rw [sumF_bv, moreF_bv, sumF_bv, sumR_parts]
theorem moreF_nil (a : List UInt8) : moreF (sumF a) [] = sumF a := by
  rw [sumF_bv, moreF_bv, moreR_nil]

theorem ext_xor (a b : UInt8) : ext (a ^^^ b) = ext a ^^^ ext b := by
  apply BitVec.eq_of_toNat_eq
  rw [BitVec.toNat_xor, ext_toNat, ext_toNat, ext_toNat, UInt8.toNat_xor]
theorem byteB_xor (x y : R) (a b : UInt8) : byteB (x ^^^ y) (a ^^^ b) = byteB x a ^^^ byteB y b := by
  unfold byteB; rw [ext_xor, xor4, bitN_xor]
def zipX (a b : List UInt8) : List UInt8 := List.zipWith (· ^^^ ·) a b
theorem moreB_xor : ∀ (a b : List UInt8) (x y : R), a.length = b.length → moreB (x ^^^ y) (zipX a b) = moreB x a ^^^ moreB y b
  | [], [], _, _, _ => rfl
  | c :: a, d :: b, x, y, h => by
    simp only [zipX, List.zipWith_cons_cons, moreB, List.foldl_cons]
    rw [byteB_xor]
    exact moreB_xor a b _ _ (by simpa using h)
theorem sumR_three (a b c : List UInt8) (h : a.length = b.length) (k : b.length = c.length) : sumR (zipX (zipX a b) c) = sumR a ^^^ sumR b ^^^ sumR c := by
  unfold sumR moreR
  have hz : (zipX a b).length = c.length := by unfold zipX; rw [List.length_zipWith]; omega
  have e : (~~~ (0 : R)) = (~~~ 0 ^^^ ~~~ 0) ^^^ ~~~ 0 := by decide
  conv => lhs; rw [e]
  rw [moreB_xor _ _ _ _ hz, moreB_xor _ _ _ _ h]
  generalize moreB (~~~ 0) a = x
  generalize moreB (~~~ 0) b = y
  generalize moreB (~~~ 0) c = z
  apply BitVec.eq_of_getLsbD_eq
  intro i hi
  simp only [BitVec.getLsbD_xor, BitVec.getLsbD_not, hi, decide_true, Bool.true_and]
  cases x.getLsbD i <;> cases y.getLsbD i <;> cases z.getLsbD i <;> rfl


end Go.Proofs.YtfmcbnoldcfcbaaDoor
