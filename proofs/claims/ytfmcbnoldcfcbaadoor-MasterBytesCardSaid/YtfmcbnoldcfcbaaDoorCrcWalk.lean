/-
  The walks through the package crc and the reference's sum: each function's contract.
-/
import Derived.Test.YtfmcbnoldcfcbaaDoorMem
import Derived.Test.YtfmcbnoldcfcbaaDoorCrcPure
import Derived.Lib.LaidTab
namespace Go.Proofs.YtfmcbnoldcfcbaaDoor
open Go.RowKit

/-- the table of half bytes lies where the program has it -/
def Tab (w : World) : Prop := ∀ i : Int, 0 ≤ i → i < 16 → w.cell? ⟨0, i.toNat, none⟩ = some (.int .u32 (half i))

theorem Tab.below {B : Nat} {w w' : World} (h : Tab w) (hb : Below B w w') (hB : 0 < B) : Tab w' := fun i h0 h1 => (hb.cell (p := ⟨0, i.toNat, none⟩) hB).trans (h i h0 h1)

theorem wrap32_bd (x : Int) : 0 ≤ IntKind.u32.wrap x ∧ IntKind.u32.wrap x ≤ 4294967295 := by rw [IntKind.wrap_u32]; omega
theorem bits32_lo (o : BinOp) (x y : Int) : 0 ≤ bits o .u32 x y := (wrap32_bd _).1
theorem bits32_hi (o : BinOp) (x y : Int) : bits o .u32 x y ≤ 4294967295 := (wrap32_bd _).2
theorem and15_hi (x : Int) : bits .and .u32 x 15 < 16 := by
  unfold bits
  rw [IntKind.wrap_u32]
  have : (BitVec.ofInt IntKind.u32.bits x &&& BitVec.ofInt IntKind.u32.bits 15).toNat < 16 := by
    rw [BitVec.toNat_and]
    refine Nat.lt_of_le_of_lt Nat.and_le_right ?_
    decide
  simp only
  omega

theorem take_snoc' (l : List UInt8) (k : Nat) (h : k < l.length) : l.take (k + 1) = l.take k ++ [l[k]] := List.take_succ_eq_append_getElem h

theorem moreI_snoc (x : Int) (l : List UInt8) (k : Nat) (h : k < l.length) : moreI x (l.take (k + 1)) = byteI (moreI x (l.take k)) l[k].toNat := by
  rw [take_snoc' l k h]; unfold moreI; rw [List.foldl_append]; rfl

set_option maxHeartbeats 400000 in
theorem more_any (s : Int) (a : Option Addr) (n cap : Nat) (l : List UInt8) (w : World) (hn : l.length = n) (hl : n ≤ 140737488351232) (hT : Tab w) (hr : RB w a l) :
    Calls Tryd.prog 33 #[.int .u32 s, .slice a n cap] w fun e w' => e = .returned (.int .u32 (moreF s l)) ∧ w = w' := by
  subst hn
  have hc15 : ∀ x, w.cell? ⟨0, (bits .and .u32 x 15).toNat, none⟩ = some (.int .u32 (half (bits .and .u32 x 15))) := fun x => hT _ (bits32_lo _ _ _) (and15_hi x)
  have h15 : ∀ x, 0 ≤ bits .and .u32 x 15 := fun x => bits32_lo _ _ _
  have h15' : ∀ x, bits .and .u32 x 15 < 16 := and15_hi
  have HR := Lib.hid hr; clear hr hT
  go_enter Tryd.func33, Tryd.ntmps33
  go_wp2_with fail
  go_loop [5, 12] (fun x i => ∃ k : Nat, k ≤ l.length ∧ i = .int .i64 k ∧ x = .int .u32 (moreI (bits .xor .u32 IntKind.u32.max s) (l.take k))) (fun _ i => l.length - (intOf i).toNat)
  case atStart => exact ⟨0, Nat.zero_le _, rfl, rfl⟩
  case round =>
    obtain ⟨k, hk, rfl, rfl⟩ := hrel
    by_cases hlt : k < l.length
    · obtain ⟨b, o, rfl, hc⟩ := HR.out k hlt
      have hs := moreI_snoc (bits .xor .u32 IntKind.u32.max s) l k hlt
      have HS := Lib.hid hs; clear hs
      generalize moreI (bits .xor .u32 IntKind.u32.max s) (l.take k) = X at *
      generalize l[k] = c at *
      unfold bval at hc
      have c0 : (c.toNat : Int) < 256 := by have := c.toNat_lt; omega
      go_wp2_with fail
      go_round
      case rel => exact ⟨k + 1, by omega, by go_num, by rw [HS.out]; rfl⟩
      case measure => simp [intOf]; omega
    · go_wp2_with fail
      have hk' : k = l.length := by omega
      subst hk'
      go_ret
      exact ⟨by rw [List.take_length]; rfl, rfl⟩

theorem sum_any (a : Option Addr) (n cap : Nat) (l : List UInt8) (w : World) (hn : l.length = n) (hl : n ≤ 140737488351232) (hT : Tab w) (hr : RB w a l) :
    Calls Tryd.prog 21 #[.slice a n cap] w fun e w' => e = .returned (.int .u32 (sumF l)) ∧ w = w' := by
  have HR := Lib.hid hr; have HT := Lib.hid hT; have HN := Lib.hid hn; clear hr hT hn
  go_enter Tryd.func21, Tryd.ntmps21
  go_wp2_with (go_at_call 33; refine (more_any 0 _ _ _ l _ HN.out hl HT.out HR.out).mono ?_; rintro e w' ⟨rfl, rfl⟩)
  go_ret
  exact ⟨rfl, rfl⟩

theorem sum_still (a : Option Addr) (n cap : Nat) (l : List UInt8) (w : World) (hn : l.length = n) (hl : n ≤ 140737488351232) (hT : Tab w) (hr : RB w a l) :
    Calls Tryd.prog 21 #[.slice a n cap] w fun e w' => e = .returned (.int .u32 (sumF l)) ∧ w' = w :=
  (sum_any a n cap l w hn hl hT hr).mono fun _ _ ⟨h, k⟩ => ⟨h, k.symm⟩

theorem same_any (a : Option Addr) (n cap : Nat) (l : List UInt8) (s : Int) (w : World) (hn : l.length = n) (hl : n ≤ 140737488351232) (hT : Tab w) (hr : RB w a l) :
    Calls Tryd.prog 28 #[.slice a n cap, .int .u32 s] w fun e w' => e = .returned (.bool (sumF l == s)) ∧ w = w' := by
  have HR := Lib.hid hr; have HT := Lib.hid hT; have HN := Lib.hid hn; clear hr hT hn
  go_enter Tryd.func28, Tryd.ntmps28
  go_wp2_with (go_at_call 21; refine (sum_any _ _ _ l _ HN.out hl HT.out HR.out).mono ?_; rintro e w' ⟨rfl, rfl⟩)
  go_ret
  exact ⟨rfl, rfl⟩

/-! the reference's sum: bit by bit, as the walk spells it -/
def rbit (x : Int) : Int := if x % 2 = 1 then bits .xor .u32 (x / 2) 3988292384 else x / 2
def rbitN : Nat → Int → Int
  | 0, x => x
  | n + 1, x => rbit (rbitN n x)
def rbyteI (x c : Int) : Int := rbitN 8 (bits .xor .u32 x c)
def rmoreI (x : Int) (l : List UInt8) : Int := l.foldl (fun x c => rbyteI x c.toNat) x
theorem rmoreI_snoc (x : Int) (l : List UInt8) (k : Nat) (h : k < l.length) : rmoreI x (l.take (k + 1)) = rbyteI (rmoreI x (l.take k)) l[k].toNat := by
  rw [take_snoc' l k h]; unfold rmoreI; rw [List.foldl_append]; rfl
theorem rbit_bd (x : Int) (h0 : 0 ≤ x) (h1 : x ≤ 4294967295) : 0 ≤ rbit x ∧ rbit x ≤ 4294967295 := by
  unfold rbit; split
  · exact wrap32_bd _
  · omega
theorem rbitN_bd (n : Nat) (x : Int) (h0 : 0 ≤ x) (h1 : x ≤ 4294967295) : 0 ≤ rbitN n x ∧ rbitN n x ≤ 4294967295 := by
  induction n with
  | zero => exact ⟨h0, h1⟩
  | succ n ih => exact rbit_bd _ ih.1 ih.2
theorem rmoreI_bd (x : Int) (h0 : 0 ≤ x) (h1 : x ≤ 4294967295) (l : List UInt8) : 0 ≤ rmoreI x l ∧ rmoreI x l ≤ 4294967295 := by
  induction l generalizing x with
  | nil => exact ⟨h0, h1⟩
  | cons c l ih =>
    unfold rmoreI at *
    rw [List.foldl_cons]
    have := rbitN_bd 8 (bits .xor .u32 x c.toNat) (bits32_lo _ _ _) (bits32_hi _ _ _)
    exact ih _ this.1 this.2

/-- one bit by integers is one bit of the register -/
theorem rbit_bv (x : R) : rbit (x.toNat : Int) = ((bit1 x).toNat : Int) := by
  have hh : (x.toNat : Int) / (2 : Int) = ((x >>> 1).toNat : Int) := by
    rw [BitVec.toNat_ushiftRight, Nat.shiftRight_eq_div_pow]; rfl
  have hb : x.getLsbD 0 = decide ((x.toNat : Int) % 2 = 1) := by
    rw [BitVec.getLsbD, Nat.testBit_zero]
    congr 1
    apply propext
    omega
  unfold rbit bit1
  rw [hb, hh, show (3988292384 : Int) = ((poly.toNat : Nat) : Int) from rfl, bits_xor]
  by_cases h : (x.toNat : Int) % 2 = 1 <;> simp [h]
theorem rbitN_bv (n : Nat) (x : R) : rbitN n (x.toNat : Int) = ((bitN n x).toNat : Int) := by
  induction n with
  | zero => rfl
  | succ n ih => simp only [rbitN]; rw [ih, rbit_bv]; rw [show bitN (n + 1) x = bit1 (bitN n x) from bitN_add n 1 x]
theorem rmoreI_bv (l : List UInt8) : ∀ x : R, rmoreI (x.toNat : Int) l = ((moreB x l).toNat : Int) := by
  induction l with
  | nil => intro x; rfl
  | cons c l ih =>
    intro x
    simp only [rmoreI, moreB, List.foldl_cons] at *
    have : rbyteI (x.toNat : Int) c.toNat = ((byteB x c).toNat : Int) := by
      unfold rbyteI byteB
      rw [← ext_toNat c, bits_xor, rbitN_bv]
    rw [this]
    exact ih _
theorem rsum_eq (l : List UInt8) : 4294967295 - rmoreI 4294967295 l = sumF l := by
  rw [sumF_bv, show (4294967295 : Int) = (((~~~ 0 : R).toNat : Nat) : Int) from rfl, rmoreI_bv]
  unfold sumR moreR
  rw [BitVec.toNat_not (x := moreB (~~~ 0) l)]
  have := (moreB (~~~ 0) l).isLt
  have e : (((~~~ 0 : R).toNat : Nat) : Int) = 4294967295 := rfl
  rw [e]
  omega

set_option maxRecDepth 100000 in
set_option maxHeartbeats 400000 in
theorem rsum_any (a : Option Addr) (n cap : Nat) (l : List UInt8) (w : World) (hn : l.length = n) (hl : n ≤ 140737488351232) (hr : RB w a l) :
    Calls Tryd.prog 24 #[.slice a n cap] w fun e w' => e = .returned (.int .u32 (sumF l)) ∧ w = w' := by
  subst hn
  have HR := Lib.hid hr; clear hr
  go_enter Tryd.func24, Tryd.ntmps24
  go_wp2_with fail
  go_loop [3, 4] (fun x i => ∃ k : Nat, k ≤ l.length ∧ i = .int .i64 k ∧ x = .int .u32 (rmoreI 4294967295 (l.take k))) (fun _ i => l.length - (intOf i).toNat)
  case atStart => exact ⟨0, Nat.zero_le _, rfl, rfl⟩
  case round =>
    obtain ⟨k, hk, rfl, rfl⟩ := hrel
    have hbd := rmoreI_bd 4294967295 (by omega) (by omega) (l.take k)
    by_cases hlt : k < l.length
    · obtain ⟨b, o, rfl, hc⟩ := HR.out k hlt
      have hs := rmoreI_snoc 4294967295 l k hlt
      have HS := Lib.hid hs; clear hs hbd
      generalize rmoreI 4294967295 (l.take k) = X at *
      generalize l[k] = c at *
      unfold bval at hc
      have c0 : (c.toNat : Int) < 256 := by have := c.toNat_lt; omega
      go_wp2_with fail
      have hY := rbitN_bd
      go_loop [3, 5] (fun x j => ∃ m : Nat, m ≤ 8 ∧ j = .int .i64 m ∧ x = .int .u32 (rbitN m (bits .xor .u32 X c.toNat))) (fun _ j => 8 - (intOf j).toNat)
      case atStart => exact ⟨0, Nat.zero_le _, rfl, rfl⟩
      case round =>
        obtain ⟨m, hm, rfl, rfl⟩ := hrel
        have hb := rbitN_bd m (bits .xor .u32 X c.toNat) (bits32_lo _ _ _) (bits32_hi _ _ _)
        clear hY
        by_cases hm8 : m < 8
        · have HT : Hid (rbitN (m + 1) (bits .xor .u32 X c.toNat) = rbit (rbitN m (bits .xor .u32 X c.toNat))) := rfl
          generalize rbitN m (bits .xor .u32 X c.toNat) = Y at *
          obtain ⟨hb0, hb1⟩ := hb
          by_cases h2 : Y % 2 = 1
          · have h2' : (Y % 2 == 1) = true := by simp [h2]
            have HR2 : Hid (rbit Y = bits .xor .u32 (Y / 2) 3988292384) := by unfold rbit; rw [if_pos h2]; rfl
            clear h2
            go_wp2_with fail
            go_round
            case rel => exact ⟨m + 1, by omega, by go_num, by rw [HT.out, HR2.out]⟩
            case measure => simp [intOf]; omega
          · have h2' : (Y % 2 == 1) = false := by simp [h2]
            have HR2 : Hid (rbit Y = Y / 2) := by unfold rbit; rw [if_neg h2]; rfl
            clear h2
            go_wp2_with fail
            go_round
            case rel => exact ⟨m + 1, by omega, by go_num, by rw [HT.out, HR2.out]⟩
            case measure => simp [intOf]; omega
        · have hm' : m = 8 := by omega
          subst hm'
          go_wp2_with fail
          go_round
          case rel => exact ⟨k + 1, by omega, by go_num, by rw [HS.out]; rfl⟩
          case measure => simp [intOf]; omega
    · have hk' : k = l.length := by omega
      subst hk'
      rw [List.take_length] at *
      have HS := rsum_eq l
      have HH := Lib.hid HS; clear HS
      generalize rmoreI 4294967295 l = X at *
      obtain ⟨hb0, hb1⟩ := hbd
      go_wp2_with fail
      go_ret
      exact ⟨by rw [← HH.out]; rfl, rfl⟩


end Go.Proofs.YtfmcbnoldcfcbaaDoor
