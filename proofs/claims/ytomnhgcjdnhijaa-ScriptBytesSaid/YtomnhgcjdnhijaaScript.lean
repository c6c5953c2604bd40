/-
  Events: which may be, which are the same.
-/
import Derived.Test.YtomnhgcjdnhijaaRdWr
namespace Go.Proofs.Ytomnhgcjdnhijaa
open Go.RowKit
set_option maxRecDepth 100000

/-- is a saga named? -/
def namedE (k : Int) : Bool := k == 2 || k == 3
/-- may an event be? -/
def goodE (k s p t : Int) (n : Nat) : Bool :=
  decide (1 ≤ k) && decide (k ≤ 8) && (k == 1 || n == 0) && decide (n ≤ 512) && (namedE k || s == 0) &&
  (if k = 7 then decide (0 ≤ p ∧ p ≤ 65535 ∧ 0 ≤ t ∧ t ≤ 65535) else p == 0 && t == 0)

theorem script_named (k : Int) (w : World) :
    Calls Try.prog 53 #[.int .u8 k] w fun r w' => r = .returned (.bool (namedE k)) ∧ w = w' := by
  go_enter Try.func53, Try.ntmps53
  go_wp2_with fail
  all_goals (go_ret; exact ⟨by simp_all [namedE], rfl⟩)

set_option maxHeartbeats 1600000 in
theorem script_good (k s p t : Int) (a : Option Addr) (n c : Nat) (hk : 0 ≤ k ∧ k ≤ 255) (w : World) :
    Calls Try.prog 24 #[.agg #[.int .u8 k, .int .u32 s, .int .i64 p, .int .i64 t, .slice a n c]] w fun r w' => r = .returned (.bool (goodE k s p t n)) ∧ w.grownBy w' none := by
  obtain ⟨h0, h1⟩ := hk
  go_enter Try.func24, Try.ntmps24
  go_wp2_with (go_at_call 53; (with_reducible refine (script_named _ _).mono ?_); rintro e w1 ⟨rfl, rfl⟩)
  all_goals (
    go_ret
    refine ⟨ret_bool ?_, World.grownBy_alloc _ _ none⟩
    first
    | (simp_all [goodE, namedE]; done)
    | (simp_all [goodE, namedE]; omega))

theorem bytes_equal (a : Option Addr) (n c : Nat) (l : List UInt8) (a' : Option Addr) (n' c' : Nat) (l' : List UInt8) (w : World) (hr : RB w a l) (hn : l.length = n) (hr' : RB w a' l') (hn' : l'.length = n') :
    Calls Try.prog 58 #[.slice a n c, .slice a' n' c'] w fun r w' => r = .returned (.bool (l == l')) ∧ w = w' := by
  have h1 := string_bytes a n c l w hr hn
  have h2 := string_bytes a' n' c' l' w hr' hn'
  have SL := strB_list
  clear hr hn hr' hn'
  go_enter Try.func58, Try.ntmps58
  go_wp2_with fail
  go_ret
  exact ⟨rfl, rfl⟩

/-- are two events the same? -/
def sameE (k s p t : Int) (l : List UInt8) (k' s' p' t' : Int) (l' : List UInt8) : Bool := k == k' && s == s' && p == p' && t == t' && l == l'

set_option maxHeartbeats 1600000 in
theorem script_same (k s p t : Int) (a : Option Addr) (n c : Nat) (l : List UInt8) (k' s' p' t' : Int) (a' : Option Addr) (n' c' : Nat) (l' : List UInt8) (w : World) (hr : RB w a l) (hn : l.length = n) (hr' : RB w a' l') (hn' : l'.length = n') :
    Calls Try.prog 28 #[.agg #[.int .u8 k, .int .u32 s, .int .i64 p, .int .i64 t, .slice a n c], .agg #[.int .u8 k', .int .u32 s', .int .i64 p', .int .i64 t', .slice a' n' c']] w fun r w' => r = .returned (.bool (sameE k s p t l k' s' p' t' l')) ∧ w.grownBy w' none := by
  have HE := Lib.hid (fun u (hg : w.grownBy u none) => bytes_equal a n c l a' n' c' l' u (hr.old (grown_below hg)) hn (hr'.old (grown_below hg)) hn')
  obtain ⟨b, hb⟩ : ∃ b, (l == l') = b := ⟨_, rfl⟩
  rw [hb] at HE
  have HB := Lib.hid hb
  clear hr hn hr' hn' hb
  go_enter Try.func28, Try.ntmps28
  go_wp2_with (go_at_call 58; (with_reducible refine (HE.out _ (growA _ _ (growA _ _ (World.grownBy.refl _ _)))).mono ?_); rintro e w1 ⟨rfl, rfl⟩)
  all_goals (
    go_ret
    refine ⟨ret_bool ?_, growA _ _ (growA _ _ (World.grownBy.refl _ _))⟩
    have hb := HB.out
    clear HB HE
    first
    | (simp_all [sameE]; done))

set_option maxHeartbeats 1600000 in
theorem ref_same (k s p t : Int) (a : Option Addr) (n c : Nat) (l : List UInt8) (k' s' p' t' : Int) (a' : Option Addr) (n' c' : Nat) (l' : List UInt8) (w : World) (hr : RB w a l) (hn : l.length = n) (hr' : RB w a' l') (hn' : l'.length = n') :
    Calls Try.prog 29 #[.agg #[.int .u8 k, .int .u32 s, .int .i64 p, .int .i64 t, .slice a n c], .agg #[.int .u8 k', .int .u32 s', .int .i64 p', .int .i64 t', .slice a' n' c']] w fun r w' => r = .returned (.bool (sameE k s p t l k' s' p' t' l')) ∧ w.grownBy w' none := by
  have h1 := str_of (c := c) hr hn
  have h2 := str_of (c := c') hr' hn'
  have SL := strB_list
  have G2 := growA2 w
  clear hr hn hr' hn'
  go_enter Try.func29, Try.ntmps29
  go_wp2_with fail
  all_goals (
    go_ret
    refine ⟨ret_bool ?_, growA _ _ (growA _ _ (World.grownBy.refl _ _))⟩
    clear SL h1 h2 G2
    first
    | (simp_all [sameE]; done))

set_option maxHeartbeats 3200000 in
theorem ref_goodE (k s p t : Int) (a : Option Addr) (n c : Nat) (l : List UInt8) (hk : 0 ≤ k ∧ k ≤ 255) (w : World) (hr : RB w a l) (hn : l.length = n) :
    Calls Try.prog 25 #[.agg #[.int .u8 k, .int .u32 s, .int .i64 p, .int .i64 t, .slice a n c]] w fun r w' => r = .returned (.bool (goodE k s p t n)) ∧ w.grownBy w' none := by
  obtain ⟨h0, h1⟩ := hk
  have HS1 := Lib.hid (fun k s p t k' s' p' t' u (hg : w.grownBy u none) => ref_same k s p t a n c l k' s' p' t' none 0 0 [] u (hr.old (grown_below hg)) hn (RB.nil _ _) rfl)
  have HS2 := Lib.hid (fun k s p t k' s' p' t' u (hg : w.grownBy u none) => ref_same k s p t a n c l k' s' p' t' a n c l u (hr.old (grown_below hg)) hn (hr.old (grown_below hg)) hn)
  have HL := Lib.hid (show (l == []) = decide (n = 0) by rw [← hn]; cases l <;> simp)
  have GR := World.grownBy.refl w none
  clear hr hn
  go_enter Try.func25, Try.ntmps25
  go_wp2_with (first
    | (go_at_call 29; (with_reducible refine (HS1.out _ _ _ _ _ _ _ _ _ (growA _ _ (growA _ _ GR))).mono ?_); rintro e w1 ⟨rfl, hg1⟩; have LK := look_new1 _ _ _ _ _ hg1)
    | (go_at_call 29; (with_reducible refine (HS2.out _ _ _ _ _ _ _ _ _ (growA _ _ (growA _ _ GR))).mono ?_); rintro e w1 ⟨rfl, hg1⟩; have LK := look_new1 _ _ _ _ _ hg1))
  all_goals (
    go_ret
    refine ⟨ret_bool ?_, ?_⟩
    · have hl := HL.out
      clear HL HS1 HS2 GR
      first
      | (simp_all [goodE, sameE, namedE]; done)
      | (simp_all [goodE, sameE, namedE]; omega)
    · first
      | exact growA _ _ (growA _ _ GR)
      | exact grown_trans (growA _ _ (growA _ _ GR)) (by assumption))

end Go.Proofs.Ytomnhgcjdnhijaa
