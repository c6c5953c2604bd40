/-
  The document's own functions for layer 3: what is written.
-/
import Derived.Test.YtomnhgcjdnhijaaWirePure
namespace Go.Proofs.Ytomnhgcjdnhijaa
open Go.RowKit

/-- a slice of bytes in a row that the call itself made -/
def OwnPost (w : World) (l : List UInt8) (e : Ending) (w' : World) : Prop :=
  ∃ a n c, e = .returned (.slice a n c) ∧ l.length = n ∧ OwnB w' w.heap.size (.slice a n c) l ∧ w.grownBy w' none

theorem numB_take (x n : Nat) : numB x (n + 1) = numB x n ++ [UInt8.ofNat (x / 2 ^ (8 * n))] := by simp [numB, List.range_succ]
theorem wrap_u64 (z : Int) (h0 : 0 ≤ z) (h1 : z < 18446744073709551616) : IntKind.u64.wrap z = z := by
  simp [IntKind.wrap, IntKind.signed, IntKind.bits]
  omega
theorem div_256 (x n : Nat) : x / 2 ^ (8 * n) / 256 = x / 2 ^ (8 * (n + 1)) := by
  rw [Nat.div_div_eq_div_mul, show 2 ^ (8 * n) * 256 = 2 ^ (8 * (n + 1)) by rw [Nat.mul_add, Nat.pow_add]]

set_option maxRecDepth 100000 in
set_option maxHeartbeats 1600000 in
theorem ref_num (x n : Nat) (hx : x < 18446744073709551616) (hn : n ≤ 100) (w : World) :
    Calls Try.prog 40 #[.int .u64 x, .int .i64 n] w (OwnPost w (numB x n)) := by
  go_enter Try.func40, Try.ntmps40
  go_wp2_with fail
  have hga := World.grownBy_alloc w (.cells #[] 5) none
  have ho0 := OwnB.made w #[] 0 (by simp [maxLen]) rfl
  generalize w.alloc (.cells #[] 5) = w0 at *
  go_loopw [0, 5, 6] (fun vx vb i wr => ∃ (j : Nat) (v : Value), j ≤ n ∧ i = .int .i64 j ∧ vx = .int .u64 (x / 2 ^ (8 * j) : Nat) ∧ vb = v ∧ OwnB wr w.heap.size v (numB x j) ∧ w.grownBy wr none) (fun _ _ i _ => n - (intOf i).toNat)
  case atStart => exact ⟨0, _, Nat.zero_le _, rfl, by simp, rfl, ho0, hga⟩
  case round =>
    obtain ⟨j, v, hj, rfl, rfl, rfl, ho, hg⟩ := hrel
    have HO := Lib.hid ho; have HG := Lib.hid hg
    clear ho hg
    by_cases hlt : j < n
    · obtain ⟨y, hy⟩ : ∃ y, x / 2 ^ (8 * j) = y := ⟨_, rfl⟩
      rw [hy]
      have hyx : y < 18446744073709551616 := by rw [← hy]; exact Nat.lt_of_le_of_lt (Nat.div_le_self _ _) hx
      have HY := Lib.hid hy
      obtain ⟨c, hc, hcy⟩ : ∃ c : UInt8, (y : Int) % 256 = (c.toNat : Int) ∧ UInt8.ofNat y = c := ⟨UInt8.ofNat y, by simp, rfl⟩
      have HCY := Lib.hid hcy
      clear hcy
      have hw : IntKind.u64.wrap ((y : Int) / 256) = ((y / 256 : Nat) : Int) := wrap_u64 _ (by omega) (by omega)
      clear hy hyx
      have HLT := Lib.hid HO.out.lt
      go_wp2_with (at_builtin; refine wpList_append_bytes2 (o := ⟨some 18, _, _, _, _, _⟩) rfl _ _ rfl w.heap.size _ (numB x j) rfl (HO.out.alloc _) _ 1 1 [c] rfl (RB.one wr _ rfl c _ _) rfl (by rw [numB_length]; omega) (by have := HG.out.size; simp; omega) ?_)
      intro v2 w2 ho2 hg2 _
      have HO2 := Lib.hid ho2
      have HG2 := Lib.hid (grown_row (grown_trans HG.out (World.grownBy_alloc wr (.cells #[.int .u8 (c.toNat : Int)] 5) none)) (fun g h => (HLT.out g h).1) hg2)
      clear ho2 hg2
      go_wp2_with fail
      exact ⟨⟨j + 1, _, by omega, by go_num, by rw [← div_256, HY.out]; simp, rfl, by rw [numB_take, HY.out, HCY.out]; exact HO2.out, HG2.out⟩, by simp only [intOf]; omega⟩
    · obtain rfl : j = n := by omega
      go_wp2_with fail
      go_ret
      obtain ⟨a, m, c, rfl, hm⟩ := HO.out.len
      exact ⟨a, m, c, rfl, hm, HO.out, HG.out⟩

theorem ref_int (x : Int) (y : Nat) (hy : IntKind.u64.wrap x = (y : Int)) (w : World) :
    Calls Try.prog 42 #[.int .i64 x] w (OwnPost w (numB y 8)) := by
  have hlt : y < 18446744073709551616 := by
    have : IntKind.u64.wrap x < 18446744073709551616 := by simp [IntKind.wrap, IntKind.signed, IntKind.bits]; omega
    omega
  have HC := Lib.hid (ref_num y 8 hlt (by decide) w)
  clear hlt
  go_enter Try.func42, Try.ntmps42
  go_wp2_with fail
  refine HC.out.mono ?_
  rintro r w1 ⟨a, n, c, rfl, hn, ho, hg⟩
  have HN := Lib.hid hn; have HO := Lib.hid ho; have HG := Lib.hid hg
  clear hn ho hg
  go_wp2_with fail
  go_ret
  exact ⟨a, n, c, rfl, HN.out, HO.out, HG.out⟩

set_option maxHeartbeats 800000 in
theorem ref_bytes (a : Option Addr) (len cap : Nat) (b : List UInt8) (w : World) (hn : b.length = len) (hr : RB w a b) (hm : len ≤ 1000000) :
    Calls Try.prog 69 #[.slice a len cap] w (OwnPost w (numB b.length 2 ++ b)) := by
  rw [hn]
  have HN := Lib.hid hn; have HR := Lib.hid hr
  have HC := Lib.hid (ref_num len 2 (by omega) (by decide) w)
  have hw : IntKind.u64.wrap (len : Int) = (len : Int) := wrap_u64 _ (by omega) (by omega)
  clear hn hr
  go_enter Try.func69, Try.ntmps69
  go_wp2_with fail
  refine HC.out.mono ?_
  rintro r w1 ⟨a1, n1, c1, rfl, hn1, ho, hg⟩
  have HN1 := Lib.hid hn1; have HO := Lib.hid ho; have HG := Lib.hid hg
  have HR1 := Lib.hid (HR.out.old (grown_below hg))
  have HLT := Lib.hid ho.lt
  clear hn1 ho hg
  go_wp2_with (at_builtin; refine wpList_append_bytes2 (o := ⟨some 8, _, _, _, _, _⟩) rfl _ _ rfl w.heap.size _ (numB len 2) rfl HO.out a _ cap b rfl HR1.out HN.out (by rw [numB_length]; omega) HG.out.size ?_)
  intro v2 w2 ho2 hg2 _
  obtain ⟨a2, n2, c2, rfl, hn2⟩ := ho2.len
  have HO2 := Lib.hid ho2; have HN2 := Lib.hid hn2
  have HG2 := Lib.hid (grown_row HG.out (fun g h => (HLT.out g h).1) hg2)
  clear ho2 hg2 hn2
  go_wp2_with fail
  go_ret
  exact ⟨a2, n2, c2, rfl, HN2.out, HO2.out, HG2.out⟩

end Go.Proofs.Ytomnhgcjdnhijaa
