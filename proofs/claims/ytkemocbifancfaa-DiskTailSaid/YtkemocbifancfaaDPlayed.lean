/-
  A disk behind acts.
-/
import Derived.Test.YtkemocbifancfaaDDo
namespace Go.Proofs.Ytkemocbifancfaa
open Go.RowKit
set_option maxRecDepth 100000

def PlayedSt (w : World) (nb sz s most d n : Nat) (w' : World) : Prop := ∃ (D : DId) (N : Nat) (S : FaceV) (T : List WriteV), D.d = d ∧ Live w w' D nb sz N s most S T ∧ T.length ≤ n ∧ endV s S + totB T ≤ 300 * n
theorem PlayedSt.later {w w1 w2 : World} {nb sz s most d n : Nat} (h : PlayedSt w nb sz s most d n w1) (hg : w1.grownBy w2 none) : PlayedSt w nb sz s most d n w2 := by
  obtain ⟨D, N, S, T, e, hl, h1, h2⟩ := h
  exact ⟨D, N, S, T, e, hl.later hg, h1, h2⟩
theorem PlayedSt.grown {w w1 : World} {nb sz s most d n : Nat} (h : PlayedSt w nb sz s most d n w1) : w.grownBy w1 none := by
  obtain ⟨D, N, S, T, e, hl, h1, h2⟩ := h
  exact hl.grown
def PlayedRel (w : World) (nb sz s most d len : Nat) (i : Value) (wr : World) : Prop := ∃ k : Nat, k ≤ len ∧ i = .int .i64 (k : Int) ∧ PlayedSt w nb sz s most d k wr
def PlayedPost (w : World) (nb sz s most len : Nat) (r : Ending) (w' : World) : Prop := ∃ d : Nat, r = .returned (.pointer (some ⟨d, 0, none⟩)) ∧ PlayedSt w nb sz s most d len w'
/-- one act more -/
theorem played_do {w wr : World} {nb sz s most d k : Nat} (h : PlayedSt w nb sz s most d k wr) (A : DActV) (hA : A.ok wr) (hAl : A.len ≤ 300) (hk : k ≤ 100) (hm : most ≤ 1048576) :
    Calls Try.prog 23 #[.pointer (some ⟨d, 0, none⟩), .agg #[.int .u8 A.k, .int .i64 A.i, .int .i64 A.t, .int .i64 A.n, .slice A.a A.len A.cap]] wr (fun r w' => (∃ e, r = .returned (.int .i64 e)) ∧ PlayedSt w nb sz s most d (k + 1) w') := by
  obtain ⟨D, N, S, T, e, hl, h1, h2⟩ := h
  subst e
  refine (disk_do D nb sz N s most S T A wr hl.disk hA (by omega) (by omega) hm (by omega)).mono ?_
  intro r w' hp
  obtain ⟨er, D', hl', e'⟩ := hl.op hp
  have hb := actST_bound hl.disk.fj.hs (nb := nb) (sz := sz) most A S T
  have hlen := hA.b.len_eq
  exact ⟨⟨_, er⟩, D', N, _, _, e', hl', by omega, by omega⟩
set_option maxHeartbeats 3200000 in
theorem disk_played' (w : World) (a : Option Addr) (len cap : Nat) (A : Nat → DActV) (nb sz s most : Nat) (hn : Calls Try.prog 20 #[.int .i64 4, .int .i64 32, .int .i64 64, .int .i64 4000] w (NewDPost w nb sz s most)) (hm : most ≤ 1048576) (hl : len ≤ 40) (hA : ∀ i, i < len → DActAt w a i (A i)) (hAl : ∀ i, i < len → (A i).len ≤ 300) :
    Calls Try.prog 10 #[.slice a len cap] w (PlayedPost w nb sz s most len) := by
  have HN := Lib.hid hn; have HM := Lib.hid hm
  have HA := Lib.hid hA; have HAL := Lib.hid hAl
  clear hn hm hA hAl
  go_enter Try.func10, Try.ntmps10
  go_wp2_with fail
  refine HN.out.mono ?_
  rintro r w1 hp
  obtain ⟨D, N, rfl, hlv⟩ := Live.made hp
  have hst : PlayedSt w nb sz s most D.d 0 w1 := ⟨D, N, _, _, rfl, hlv, by simp, by simp [endV, totB]⟩
  obtain ⟨d, hd⟩ : ∃ d, D.d = d := ⟨_, rfl⟩
  rw [hd] at hst ⊢
  have HST := Lib.hid hst
  clear hp hlv hst hd HN
  go_wp2_with fail
  go_loopw [4] (fun i wr => PlayedRel w nb sz s most d len i wr) (fun i _ => len - (intOf i).toNat)
  case atStart => exact ⟨0, Nat.zero_le _, rfl, HST.out⟩
  case round =>
    obtain ⟨k, hk, rfl, hst⟩ := hrel
    have HS2 := Lib.hid hst; clear hst
    by_cases hlt : k < len
    · have hg := HS2.out.grown
      obtain ⟨b, o, rfl, c0, c1, c2, c3, c4, hok⟩ := (HA.out k hlt).grown hg
      have i0 : (0 : Int) ≤ (k : Int) := by omega
      have i1 : (k : Int) < (len : Int) := by omega
      have HC := Lib.hid (played_do HS2.out (A k) hok (HAL.out k hlt) (by omega) HM.out)
      clear hok hg
      go_wp2_with fail
      refine HC.out.mono ?_
      rintro r w2 ⟨⟨e, rfl⟩, hst⟩
      have HS3 := Lib.hid hst; clear hst
      go_wp2_with fail
      exact ⟨⟨k + 1, by omega, by go_num, HS3.out⟩, by simp only [intOf]; omega⟩
    · obtain rfl : k = len := by omega
      go_wp2_with fail
      go_ret
      exact ⟨d, rfl, HS2.out⟩
theorem disk_played (w : World) (a : Option Addr) (len cap : Nat) (A : Nat → DActV) (hl : len ≤ 40) (hA : ∀ i, i < len → DActAt w a i (A i)) (hAl : ∀ i, i < len → (A i).len ≤ 300) :
    Calls Try.prog 10 #[.slice a len cap] w (PlayedPost w 4 32 64 4000 len) :=
  disk_played' w a len cap A 4 32 64 4000 (disk_new 4 32 64 4000 w) (by omega) hl hA hAl

end Go.Proofs.Ytkemocbifancfaa
