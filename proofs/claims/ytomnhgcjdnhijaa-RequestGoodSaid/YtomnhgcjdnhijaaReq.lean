/-
  Requests: which can be told, which are the same.
-/
import Derived.Test.YtomnhgcjdnhijaaLines
namespace Go.Proofs.Ytomnhgcjdnhijaa
open Go.RowKit
set_option maxRecDepth 100000

def orderedF (k : Int) : Bool := decide (1 ≤ k) && decide (k ≤ 4)
def movedF (k : Int) : Bool := k == 5 || k == 6
/-- can a request be told? -/
def plainF (k o p : Int) (n : Nat) (s f t q : Int) : Bool :=
  decide (1 ≤ k) && decide (k ≤ 7) && decide (n ≤ 3) && (k == 1 || (p == 0 && n == 0)) && (k == 6 || f == 0) &&
  (if k ≤ 4 then s == 0 && t == 0 && q == 0 else o == 0 && (movedF k || (t == 0 && q == 0)))

theorem req_ordered (k : Int) (w : World) :
    Calls Try.prog 35 #[.int .u8 k] w fun r w' => r = .returned (.bool (orderedF k)) ∧ w = w' := by
  go_enter Try.func35, Try.ntmps35
  go_wp2_with fail
  all_goals (go_ret; refine ⟨ret_bool ?_, rfl⟩; first | (simp_all [orderedF]; done) | (simp_all [orderedF]; omega))
theorem req_moved (k : Int) (w : World) :
    Calls Try.prog 38 #[.int .u8 k] w fun r w' => r = .returned (.bool (movedF k)) ∧ w = w' := by
  go_enter Try.func38, Try.ntmps38
  go_wp2_with fail
  all_goals (go_ret; refine ⟨ret_bool ?_, rfl⟩; first | (simp_all [movedF]; done) | (simp_all [movedF]; omega))

set_option maxHeartbeats 3200000 in
theorem req_plain (k o p : Int) (a : Option Addr) (n c : Nat) (s f t q : Int) (w : World) :
    Calls Try.prog 27 #[.agg #[.int .u8 k, .int .u32 o, .int .u8 p, .slice a n c, .int .u8 s, .int .u8 f, .int .u8 t, .int .i64 q]] w fun r w' => r = .returned (.bool (plainF k o p n s f t q)) ∧ w.grownBy w' none := by
  go_enter Try.func27, Try.ntmps27
  go_wp2_with (first
    | (go_at_call 35; (with_reducible refine (req_ordered _ _).mono ?_); rintro e w1 ⟨rfl, rfl⟩)
    | (go_at_call 38; (with_reducible refine (req_moved _ _).mono ?_); rintro e w1 ⟨rfl, rfl⟩))
  all_goals (
    go_ret
    refine ⟨ret_bool ?_, World.grownBy_alloc _ _ none⟩
    first
    | (simp_all [plainF, orderedF, movedF]; done)
    | (simp_all [plainF, orderedF, movedF]; omega)
    | (by_cases hq : q = 0 <;> simp_all [plainF, orderedF, movedF] <;> omega)
    | (have h4 : ¬ k ≤ 4 := by first | (simp_all [orderedF]; done) | (simp_all [orderedF]; omega)
       unfold plainF
       rw [if_neg h4]
       simp_all))

/-- are two requests the same? -/
def sameQ (k o p : Int) (L : List LineP) (s f t q k' o' p' : Int) (L' : List LineP) (s' f' t' q' : Int) : Bool := k == k' && o == o' && p == p' && decide (L = L') && s == s' && f == f' && t == t' && q == q'
theorem sameQ_self (k o p : Int) (L : List LineP) (s f t q : Int) : sameQ k o p L s f t q k o p L s f t q = true := by simp [sameQ]
set_option maxHeartbeats 3200000 in
theorem ref_sameQ (k o p : Int) (a : Option Addr) (n c : Nat) (L : List LineP) (s f t q k' o' p' : Int) (a' : Option Addr) (n' c' : Nat) (L' : List LineP) (s' f' t' q' : Int) (w : World) (hL : LineList w a L) (hn : L.length = n) (hL' : LineList w a' L') (hn' : L'.length = n') (hm : n ≤ maxLen) :
    Calls Try.prog 16 #[.agg #[.int .u8 k, .int .u32 o, .int .u8 p, .slice a n c, .int .u8 s, .int .u8 f, .int .u8 t, .int .i64 q], .agg #[.int .u8 k', .int .u32 o', .int .u8 p', .slice a' n' c', .int .u8 s', .int .u8 f', .int .u8 t', .int .i64 q']] w fun r w' => r = .returned (.bool (sameQ k o p L s f t q k' o' p' L' s' f' t' q')) ∧ w.grownBy w' none := by
  have HC := Lib.hid (fun u (hg : w.grownBy u none) => ref_sameLines a n c L a' n' c' L' u (hL.grown hg) hn (hL'.grown hg) hn' hm)
  obtain ⟨b, hb⟩ : ∃ b, decide (L = L') = b := ⟨_, rfl⟩
  rw [hb] at HC
  have HB := Lib.hid hb
  have GR := World.grownBy.refl w none
  clear hL hn hL' hn' hm hb
  go_enter Try.func16, Try.ntmps16
  go_wp2_with (go_at_call 51; (with_reducible refine (HC.out _ (growA _ _ (growA _ _ GR))).mono ?_); rintro e w1 ⟨rfl, hg1⟩; have LK1 := look_new1 _ _ _ _ _ hg1; have LK2 := look_new2 _ _ _ _ _ hg1)
  all_goals (
    go_ret
    refine ⟨ret_bool ?_, ?_⟩
    · have hb := HB.out
      clear HB HC GR
      first
      | (simp_all [sameQ]; done)
    · first
      | exact growA _ _ (growA _ _ GR)
      | exact grown_trans (growA _ _ (growA _ _ GR)) (by assumption))

set_option maxHeartbeats 3200000 in
theorem req_same (k o p : Int) (a : Option Addr) (n c : Nat) (L : List LineP) (s f t q k' o' p' : Int) (a' : Option Addr) (n' c' : Nat) (L' : List LineP) (s' f' t' q' : Int) (w : World) (hL : LineList w a L) (hn : L.length = n) (hL' : LineList w a' L') (hn' : L'.length = n') (hm : n ≤ maxLen) :
    Calls Try.prog 26 #[.agg #[.int .u8 k, .int .u32 o, .int .u8 p, .slice a n c, .int .u8 s, .int .u8 f, .int .u8 t, .int .i64 q], .agg #[.int .u8 k', .int .u32 o', .int .u8 p', .slice a' n' c', .int .u8 s', .int .u8 f', .int .u8 t', .int .i64 q']] w fun r w' => r = .returned (.bool (sameQ k o p L s f t q k' o' p' L' s' f' t' q')) ∧ w.grownBy w' none := by
  have HC := Lib.hid (fun u (hg : w.grownBy u none) => lines_equal a n c L a' n' c' L' u (hL.grown hg) hn (hL'.grown hg) hn' hm)
  obtain ⟨b, hb⟩ : ∃ b, decide (L = L') = b := ⟨_, rfl⟩
  rw [hb] at HC
  have HB := Lib.hid hb
  have GR := World.grownBy.refl w none
  clear hL hn hL' hn' hm hb
  go_enter Try.func26, Try.ntmps26
  go_wp2_with (go_at_call 57; (with_reducible refine (HC.out _ (growA _ _ (growA _ _ GR))).mono ?_); rintro e w1 ⟨rfl, hg1⟩; have LK1 := look_new1 _ _ _ _ _ hg1; have LK2 := look_new2 _ _ _ _ _ hg1)
  all_goals (
    go_ret
    refine ⟨ret_bool ?_, ?_⟩
    · have hb := HB.out
      clear HB HC GR
      first
      | (simp_all [sameQ]; done)
    · first
      | exact growA _ _ (growA _ _ GR)
      | exact grown_trans (growA _ _ (growA _ _ GR)) (by assumption))

set_option maxHeartbeats 3200000 in
theorem ref_plainQ (k o p : Int) (a : Option Addr) (n c : Nat) (L : List LineP) (s f t q : Int) (w : World) (hk : 0 ≤ k ∧ k ≤ 255) (hL : LineList w a L) (hn : L.length = n) (hm : n ≤ maxLen) :
    Calls Try.prog 12 #[.agg #[.int .u8 k, .int .u32 o, .int .u8 p, .slice a n c, .int .u8 s, .int .u8 f, .int .u8 t, .int .i64 q]] w fun r w' => r = .returned (.bool (plainF k o p n s f t q)) ∧ w.grownBy w' none := by
  obtain ⟨k0, k1⟩ := hk
  have HS1 := Lib.hid (fun k o p s f t q k' o' p' s' f' t' q' u (hg : w.grownBy u none) => ref_sameQ k o p a n c L s f t q k' o' p' none 0 0 [] s' f' t' q' u (hL.grown hg) hn (LineList.nil _ _) rfl hm)
  have HS2 := Lib.hid (fun k o p s f t q k' o' p' s' f' t' q' u (hg : w.grownBy u none) => ref_sameQ k o p a n c L s f t q k' o' p' a n c L s' f' t' q' u (hL.grown hg) hn (hL.grown hg) hn hm)
  have HL := Lib.hid (show L = [] ↔ n = 0 by rw [← hn]; exact List.length_eq_zero_iff.symm)
  have GR := World.grownBy.refl w none
  clear hL hn hm
  go_enter Try.func12, Try.ntmps12
  go_wp2_with (first
    | (go_at_call 16; (with_reducible refine (HS1.out _ _ _ _ _ _ _ _ _ _ _ _ _ _ _ (growA _ _ (growA _ _ GR))).mono ?_); rintro e w1 ⟨rfl, hg1⟩)
    | (go_at_call 16; (with_reducible refine (HS2.out _ _ _ _ _ _ _ _ _ _ _ _ _ _ _ (growA _ _ (growA _ _ GR))).mono ?_); rintro e w1 ⟨rfl, hg1⟩))
  all_goals (
    go_ret
    refine ⟨ret_bool ?_, ?_⟩
    · have hl := HL.out
      clear HL HS1 HS2 GR
      try clear hg1
      rw [Bool.eq_iff_iff]
      first
      | (simp_all [plainF, sameQ, movedF]; done)
      | (simp_all [plainF, sameQ, movedF]; omega)
    · first
      | exact growA _ _ (growA _ _ GR)
      | exact grown_trans (growA _ _ (growA _ _ GR)) (by assumption))

end Go.Proofs.Ytomnhgcjdnhijaa
