/-
  'few' and 'put'.
-/
import Derived.Test.YthpoccjlhcpoiaaWireOnce
import Derived.Test.YthpoccjlhcpoiaaWireArgs
namespace Go.Proofs.Ythpoccjlhcpoiaa
open Go.RowKit

set_option maxHeartbeats 1600000 in
theorem wire_few (w : World) (a : Option Addr) (len cap : Nat) (A : Nat → ItemV) (hl : len ≤ maxLen) (hA : ∀ i, i < len → ItemAt w a i (A i)) :
    Calls Try.prog 23 #[.slice a len cap] w fun e w' => ∃ f, e = .returned (.bool f) ∧ w.grownBy w' none ∧ (f = true → len ≤ 30 ∧ ∀ i, i < len → (A i).len ≤ 300) := by
  have HA := Lib.hid hA; clear hA
  have hmax : maxLen = 9223372036854775807 := rfl
  rw [hmax] at hl
  have HL := Lib.hid hl
  clear hmax
  by_cases h30 : (30 : Int) < (len : Int)
  · clear hl
    go_enter Try.func23, Try.ntmps23
    go_wp2_with fail
    go_ret
    exact ⟨false, rfl, World.grownBy.refl _ _, by simp⟩
  · clear hl
    go_enter Try.func23, Try.ntmps23
    go_wp2_with fail
    go_loopw [3] (fun i wr => ∃ k : Nat, k ≤ len ∧ i = .int .i64 k ∧ w.grownBy wr none ∧ ∀ j, j < k → (A j).len ≤ 300) (fun i _ => len - (intOf i).toNat)
    case atStart => exact ⟨0, Nat.zero_le _, rfl, World.grownBy.refl _ _, fun j hj => by omega⟩
    case round =>
      obtain ⟨k, hk, rfl, hgr, hfew⟩ := hrel
      have HGR := Lib.hid hgr; have HF := Lib.hid hfew
      clear hgr hfew
      by_cases hlt : k < len
      · obtain ⟨b, o, rfl, c0, c1, c2, c3, hok⟩ := HA.out k hlt
        have d1 := grown_cell HGR.out c3
        clear c0 c1 c2 c3 hok
        have i0 : (0 : Int) ≤ (k : Int) := by omega
        have i1 : (k : Int) < (len : Int) := by omega
        by_cases h3 : (300 : Int) < ((A k).len : Int)
        · go_wp2_with fail
          go_ret
          exact ⟨false, rfl, HGR.out, by simp⟩
        · go_wp2_with fail
          exact ⟨⟨k + 1, by omega, by go_num, HGR.out, fun j hj => by
            rcases Nat.lt_succ_iff_lt_or_eq.1 hj with h | rfl
            · exact HF.out j h
            · omega⟩, by simp only [intOf]; omega⟩
      · obtain rfl : k = len := by omega
        go_wp2_with fail
        go_ret
        exact ⟨true, rfl, HGR.out, fun _ => ⟨by omega, HF.out⟩⟩

/-- what 'put' does -/
def putW (most : Nat) (s : Int × List UInt8) (A : ItemV) : Int × List UInt8 :=
  if A.k.toNat % 5 = 0 then numW most s A.x A.n else
  if A.k.toNat % 5 = 1 then numW most s A.x 8 else
  if A.k.toNat % 5 = 2 then rawW most s [if A.x % 2 == 1 then 1 else 0] else
  if A.k.toNat % 5 = 3 then bytesW most s A.b else rawW most s A.b

theorem wrap_back (x : Nat) (h : x < 18446744073709551616) : IntKind.u64.wrap (wrap64 (x : Int)) = (x : Int) := by
  simp [IntKind.wrap, IntKind.signed, IntKind.bits, wrap64]
  omega

set_option maxHeartbeats 3200000 in
theorem wire_put {w : World} {g : Nat} {e : Int} {v : Value} {l : List UInt8} {most : Nat} (W : WriterAt w g e v l most) (A : ItemV) (hA : InB w A.a A.len A.cap A.b) (hx : A.x < 18446744073709551616) (hm : Room most l (10 + A.len)) :
    Calls Try.prog 24 #[.pointer (some ⟨g, 0, none⟩), .agg #[.int .u8 (A.k.toNat : Int), .int .u64 (A.x : Int), .int .i64 A.n, .slice A.a A.len A.cap]] w fun r w' =>
      r = .returned (.tuple #[]) ∧ WPost w g v most (putW most (e, l) A) r w' := by
  have HW := Lib.hid W; have HA := Lib.hid hA; have HX := Lib.hid hx; have HM := Lib.hid hm
  clear W hA hx hm
  unfold putW
  obtain ⟨q, hq⟩ : ∃ q, A.k.toNat % 5 = q := ⟨_, rfl⟩
  have hq5 : q < 5 := by omega
  have hqi : (A.k.toNat : Int) % 5 = (q : Int) := by omega
  rw [hq]
  clear hq
  have hga := World.grownBy_alloc w (.cells #[.int .u8 (A.k.toNat : Int), .int .u64 (A.x : Int), .int .i64 A.n, .slice A.a A.len A.cap] 43) none
  have HGA := Lib.hid hga
  clear hga
  rcases (show q = 0 ∨ q = 1 ∨ q = 2 ∨ q = 3 ∨ q = 4 by omega) with rfl | rfl | rfl | rfl | rfl
  · clear hq5
    rw [if_pos rfl]
    go_enter Try.func24, Try.ntmps24
    go_wp2_with fail
    refine (wire_num (HW.out.grown HGA.out) A.x HX.out A.n (HM.out.few (by omega))).mono ?_
    rintro r w1 ⟨rfl, v1, hW, hk⟩
    have HW1 := Lib.hid hW; have HK1 := Lib.hid (hk.behind HGA.out)
    clear hW hk
    go_wp2_with fail
    go_end0
    exact ⟨rfl, v1, HW1.out, HK1.out⟩
  · clear hq5
    rw [if_neg (by decide)]
    rw [if_pos rfl]
    go_enter Try.func24, Try.ntmps24
    go_wp2_with fail
    refine (wire_int (HW.out.grown HGA.out) _ A.x (wrap_back _ HX.out) (HM.out.few (by omega))).mono ?_
    rintro r w1 ⟨rfl, v1, hW, hk⟩
    have HW1 := Lib.hid hW; have HK1 := Lib.hid (hk.behind HGA.out)
    clear hW hk
    go_wp2_with fail
    go_end0
    exact ⟨rfl, v1, HW1.out, HK1.out⟩
  · clear hq5
    rw [if_neg (by decide)]
    rw [if_neg (by decide)]
    rw [if_pos rfl]
    obtain ⟨tb, htb⟩ : ∃ tb, (A.x % 2 == 1) = tb := ⟨_, rfl⟩
    have hbi : ((A.x : Int) % 2 == 1) = tb := by rw [← htb, Bool.eq_iff_iff]; simp only [beq_iff_eq]; omega
    rw [htb]
    clear htb
    obtain ⟨y, hy⟩ : ∃ y : UInt8, (if tb = true then 1 else 0) = y := ⟨_, rfl⟩
    rw [hy]
    have HY := Lib.hid hy
    clear hy
    go_enter Try.func24, Try.ntmps24
    go_wp2_with fail
    refine (wire_bool (HW.out.grown HGA.out) tb (HM.out.few (by omega))).mono ?_
    rintro r w1 ⟨rfl, v1, hW, hk⟩
    rw [HY.out] at hW
    have HW1 := Lib.hid hW; have HK1 := Lib.hid (hk.behind HGA.out)
    clear hW hk
    go_wp2_with fail
    go_end0
    exact ⟨rfl, v1, HW1.out, HK1.out⟩
  · clear hq5
    rw [if_neg (by decide)]
    rw [if_neg (by decide)]
    rw [if_neg (by decide)]
    rw [if_pos rfl]
    go_enter Try.func24, Try.ntmps24
    go_wp2_with fail
    refine (wire_bytes (HW.out.grown HGA.out) A.a A.len A.cap A.b HA.out.len_eq (HA.out.reads.alloc _) (HM.out.few (by omega))).mono ?_
    rintro r w1 ⟨rfl, v1, hW, hk⟩
    have HW1 := Lib.hid hW; have HK1 := Lib.hid (hk.behind HGA.out)
    clear hW hk
    go_wp2_with fail
    go_end0
    exact ⟨rfl, v1, HW1.out, HK1.out⟩
  · clear hq5
    rw [if_neg (by decide)]
    rw [if_neg (by decide)]
    rw [if_neg (by decide)]
    rw [if_neg (by decide)]
    go_enter Try.func24, Try.ntmps24
    go_wp2_with fail
    refine (wire_raw (HW.out.grown HGA.out) A.a A.len A.cap A.b HA.out.len_eq (HA.out.reads.alloc _) (HM.out.few (by omega))).mono ?_
    rintro r w1 ⟨rfl, v1, hW, hk⟩
    have HW1 := Lib.hid hW; have HK1 := Lib.hid (hk.behind HGA.out)
    clear hW hk
    go_wp2_with fail
    go_end0
    exact ⟨rfl, v1, HW1.out, HK1.out⟩
end Go.Proofs.Ythpoccjlhcpoiaa
