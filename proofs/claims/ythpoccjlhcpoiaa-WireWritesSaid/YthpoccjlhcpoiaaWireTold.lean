/-
  'told'.
-/
import Derived.Test.YthpoccjlhcpoiaaWireRef
import Derived.Test.YthpoccjlhcpoiaaWirePut
namespace Go.Proofs.Ythpoccjlhcpoiaa
open Go.RowKit

/-- what 'told' tells -/
def toldI (A : ItemV) : List UInt8 × Int :=
  if A.k.toNat % 5 = 0 then (if A.n < 1 ∨ 8 < A.n ∨ A.x / 2 ^ (8 * A.n.toNat) ≠ 0 then ([], 1) else (numB A.x A.n.toNat, 0)) else
  if A.k.toNat % 5 = 1 then (numB A.x 8, 0) else
  if A.k.toNat % 5 = 2 then ([if A.x % 2 == 1 then 1 else 0], 0) else
  if A.k.toNat % 5 = 3 then (numB A.b.length 2 ++ A.b, 0) else (A.b, 0)
def ToldPost (w : World) (t : List UInt8 × Int) (e : Ending) (w' : World) : Prop :=
  ∃ a n c, e = .returned (.tuple #[.slice a n c, .int .i64 t.2]) ∧ t.1.length = n ∧ RB w' a t.1 ∧ w.grownBy w' none

set_option maxRecDepth 100000 in
set_option maxHeartbeats 3200000 in
theorem wire_told (w : World) (A : ItemV) (hA : InB w A.a A.len A.cap A.b) (hx : A.x < 18446744073709551616) (hl : A.len ≤ 1000000) :
    Calls Try.prog 26 #[.agg #[.int .u8 (A.k.toNat : Int), .int .u64 (A.x : Int), .int .i64 A.n, .slice A.a A.len A.cap]] w (ToldPost w (toldI A)) := by
  have HA := Lib.hid hA; have HX := Lib.hid hx
  clear hA hx
  unfold toldI
  obtain ⟨q, hq⟩ : ∃ q, A.k.toNat % 5 = q := ⟨_, rfl⟩
  have hq5 : q < 5 := by omega
  have hqi : (A.k.toNat : Int) % 5 = (q : Int) := by omega
  rw [hq]
  clear hq
  have HGA := Lib.hid (World.grownBy_alloc w (.cells #[.int .u8 (A.k.toNat : Int), .int .u64 (A.x : Int), .int .i64 A.n, .slice A.a A.len A.cap] 43) none)
  rcases (show q = 0 ∨ q = 1 ∨ q = 2 ∨ q = 3 ∨ q = 4 by omega) with rfl | rfl | rfl | rfl | rfl
  · clear hq5
    rw [if_pos rfl]
    by_cases h1 : A.n < 1
    · rw [if_pos (.inl h1)]
      go_enter Try.func26, Try.ntmps26
      go_wp2_with fail
      go_ret2
      exact ⟨none, 0, 0, rfl, rfl, RB.nil _ _, HGA.out⟩
    · by_cases h8 : 8 < A.n
      · rw [if_pos (.inr (.inl h8))]
        go_enter Try.func26, Try.ntmps26
        go_wp2_with fail
        go_ret2
        exact ⟨none, 0, 0, rfl, rfl, RB.nil _ _, HGA.out⟩
      · have hnn : A.n = (A.n.toNat : Int) := by omega
        have hn8 : A.n.toNat ≤ 8 := by omega
        have HF := Lib.hid (fun w => ref_fits A.x A.n.toNat HX.out (by omega) w)
        rw [← hnn] at HF
        by_cases hf : A.x / 2 ^ (8 * A.n.toNat) = 0
        · rw [if_neg (by simp [hf]; omega)]
          have HC := Lib.hid (fun w => ref_num A.x A.n.toNat HX.out (by omega) w)
          rw [← hnn] at HC
          have hfb : (A.x / 2 ^ (8 * A.n.toNat) == 0) = true := by simp [hf]
          rw [hfb] at HF
          clear hf hfb hnn hn8
          go_enter Try.func26, Try.ntmps26
          go_wp2_with fail
          refine (HF.out _).mono ?_
          rintro r w1 ⟨rfl, rfl⟩
          go_wp2_with fail
          refine (HC.out _).mono ?_
          rintro r w2 ⟨a, n, c, rfl, hn, ho, hg⟩
          have HN := Lib.hid hn; have HO := Lib.hid (RB.of_own ho); have HG := Lib.hid (grown_trans HGA.out hg)
          clear hn ho hg
          go_wp2_with fail
          go_ret2
          exact ⟨a, n, c, rfl, HN.out, HO.out, HG.out⟩
        · rw [if_pos (.inr (.inr hf))]
          have hfb : (A.x / 2 ^ (8 * A.n.toNat) == 0) = false := by simp only [beq_eq_false_iff_ne, ne_eq]; exact hf
          rw [hfb] at HF
          clear hf hfb hnn hn8
          go_enter Try.func26, Try.ntmps26
          go_wp2_with fail
          refine (HF.out _).mono ?_
          rintro r w1 ⟨rfl, rfl⟩
          go_wp2_with fail
          go_ret2
          exact ⟨none, 0, 0, rfl, rfl, RB.nil _ _, HGA.out⟩
  · clear hq5
    rw [if_neg (by decide), if_pos rfl]
    have HC := Lib.hid (fun w => ref_int (wrap64 (A.x : Int)) A.x (wrap_back _ HX.out) w)
    go_enter Try.func26, Try.ntmps26
    go_wp2_with fail
    refine (HC.out _).mono ?_
    rintro r w2 ⟨a, n, c, rfl, hn, ho, hg⟩
    have HN := Lib.hid hn; have HO := Lib.hid (RB.of_own ho); have HG := Lib.hid (grown_trans HGA.out hg)
    clear hn ho hg
    go_wp2_with fail
    go_ret2
    exact ⟨a, n, c, rfl, HN.out, HO.out, HG.out⟩
  · clear hq5
    rw [if_neg (by decide), if_neg (by decide), if_pos rfl]
    obtain ⟨tb, htb⟩ : ∃ tb, (A.x % 2 == 1) = tb := ⟨_, rfl⟩
    have hbi : ((A.x : Int) % 2 == 1) = tb := by rw [← htb, Bool.eq_iff_iff]; simp only [beq_iff_eq]; omega
    rw [htb]
    clear htb
    have HC := Lib.hid (fun w => ref_bool tb w)
    obtain ⟨y, hy⟩ : ∃ y : UInt8, (if tb = true then 1 else 0) = y := ⟨_, rfl⟩
    rw [hy] at HC ⊢
    clear hy
    go_enter Try.func26, Try.ntmps26
    go_wp2_with fail
    refine (HC.out _).mono ?_
    rintro r w2 ⟨a, n, c, rfl, hn, ho, hg⟩
    have HN := Lib.hid hn; have HO := Lib.hid (RB.of_own ho); have HG := Lib.hid (grown_trans HGA.out hg)
    clear hn ho hg
    go_wp2_with fail
    go_ret2
    exact ⟨a, n, c, rfl, HN.out, HO.out, HG.out⟩
  · clear hq5
    rw [if_neg (by decide), if_neg (by decide), if_neg (by decide), if_pos rfl]
    go_enter Try.func26, Try.ntmps26
    go_wp2_with fail
    refine (ref_bytes A.a A.len A.cap A.b _ HA.out.len_eq (HA.out.reads.alloc _) hl).mono ?_
    rintro r w2 ⟨a, n, c, rfl, hn, ho, hg⟩
    have HN := Lib.hid hn; have HO := Lib.hid (RB.of_own ho); have HG := Lib.hid (grown_trans HGA.out hg)
    clear hn ho hg
    go_wp2_with fail
    go_ret2
    exact ⟨a, n, c, rfl, HN.out, HO.out, HG.out⟩
  · clear hq5
    rw [if_neg (by decide), if_neg (by decide), if_neg (by decide), if_neg (by decide)]
    go_enter Try.func26, Try.ntmps26
    go_wp2_with fail
    go_ret2
    exact ⟨A.a, A.len, A.cap, rfl, HA.out.len_eq, HA.out.reads.alloc _, HGA.out⟩
end Go.Proofs.Ythpoccjlhcpoiaa
