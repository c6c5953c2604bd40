/-
  Whether acts are few; what an act leaves at its numbers.
-/
import Derived.Test.YtfmcbnoldcfcbaaTDo
namespace Go.Proofs.Ytfmcbnoldcfcbaa
open Go.RowKit
set_option maxRecDepth 100000

def FewRel (w : World) (len : Nat) (A : Nat → TActV) (i : Value) (wr : World) : Prop := ∃ k : Nat, k ≤ len ∧ i = .int .i64 (k : Int) ∧ (∀ j, j < k → (A j).len ≤ 600) ∧ w.grownBy wr none
def FewPost (w : World) (len : Nat) (A : Nat → TActV) (r : Ending) (w' : World) : Prop := ∃ f, r = .returned (.bool f) ∧ w.grownBy w' none ∧ (f = true → len ≤ 40 ∧ ∀ j, j < len → (A j).len ≤ 600)
set_option maxHeartbeats 1600000 in
theorem tape_few (w : World) (a : Option Addr) (len cap : Nat) (A : Nat → TActV) (hl : len ≤ maxLen) (hA : ∀ i, i < len → TActAt w a i (A i)) :
    Calls Try.prog 12 #[.slice a len cap] w (FewPost w len A) := by
  have HA := Lib.hid hA; clear hA
  have hmax : maxLen = 9223372036854775807 := rfl
  rw [hmax] at hl
  clear hmax
  by_cases h40 : (40 : Int) < (len : Int)
  · go_enter Try.func12, Try.ntmps12
    go_wp2_with fail
    go_ret
    exact ⟨false, rfl, World.grownBy.refl _ _, by simp⟩
  · go_enter Try.func12, Try.ntmps12
    go_wp2_with fail
    go_loopw [3] (fun i wr => FewRel w len A i wr) (fun i _ => len - (intOf i).toNat)
    case atStart => exact ⟨0, Nat.zero_le _, rfl, fun _ h => absurd h (by omega), World.grownBy.refl _ _⟩
    case round =>
      obtain ⟨k, hk, rfl, hall, hgr⟩ := hrel
      have HGR := Lib.hid hgr; clear hgr
      have HALL := Lib.hid hall; clear hall
      by_cases hlt : k < len
      · obtain ⟨b, o, rfl, c0, c1, c2, hok⟩ := HA.out k hlt
        have d1 := grown_cell HGR.out c1
        clear c0 c1 c2 hok
        have i0 : (0 : Int) ≤ (k : Int) := by omega
        have i1 : (k : Int) < (len : Int) := by omega
        by_cases h6 : (600 : Int) < ((A k).len : Int)
        · go_wp2_with fail
          go_ret
          exact ⟨false, rfl, HGR.out, by simp⟩
        · go_wp2_with fail
          exact ⟨⟨k + 1, by omega, by go_num, fun j hj => by
            by_cases e : j = k
            · subst e; omega
            · exact HALL.out j (by omega), HGR.out⟩, by simp only [intOf]; omega⟩
      · obtain rfl : k = len := by omega
        go_wp2_with fail
        go_ret
        exact ⟨true, rfl, HGR.out, fun _ => ⟨by omega, HALL.out⟩⟩
theorem act_at (s f : Nat) (l b : List UInt8) (k n : Int) : ∃ d, actF s f l k n * s = f * s + d ∧ ∀ j, j < (actL s f l k n b).length → d + j < l.length → (actL s f l k n b)[j]? = l[d + j]? := by
  unfold actF actL
  split
  · exact ⟨dropN s f l.length n * s, by rw [Nat.add_mul], fun j _ _ => by rw [List.getElem?_drop]⟩
  · split
    · refine ⟨0, rfl, fun j hj _ => ?_⟩
      rw [Nat.zero_add]
      unfold cutT at hj ⊢
      split
      · rfl
      · rename_i h
        rw [if_neg h, List.length_take] at hj
        rw [List.getElem?_take, if_pos (by omega)]
    · exact ⟨0, rfl, fun j _ h => by rw [Nat.zero_add] at h ⊢; rw [List.getElem?_append_left h]⟩
theorem TActAt.grown {w w' : World} {a : Option Addr} {i : Nat} {A : TActV} (h : TActAt w a i A) (hg : w.grownBy w' none) : TActAt w' a i A := by
  obtain ⟨b, o, e, c0, c1, c2, hok⟩ := h
  exact ⟨b, o, e, grown_cell hg c0, grown_cell hg c1, grown_cell hg c2, hok.b.grown hg, hok.k, hok.n⟩
theorem TActAt.ok {w : World} {a : Option Addr} {i : Nat} {A : TActV} (h : TActAt w a i A) : A.ok w := by
  obtain ⟨b, o, e, c0, c1, c2, hok⟩ := h
  exact hok
theorem TActV.ok.grown {w w' : World} {A : TActV} (h : A.ok w) (hg : w.grownBy w' none) : A.ok w' := ⟨h.b.grown hg, h.k, h.n⟩
/-- what was there ahead of the call lies in no block that the call made -/
theorem RX.new {w w' : World} {X : Nat → Prop} {a : Option Addr} {l : List UInt8} (h : RB w a l) (hg : w.grownBy w' none) (hX : ∀ k, X k → w.heap.size ≤ k) : RX w' X a l :=
  (RX.of_rb h (fun ad e hne hx => by
    have h1 := hX _ hx
    obtain ⟨b, o, e2, hc⟩ := h 0 (List.length_pos_iff.2 hne)
    rw [e] at e2
    cases e2
    have := World.block_lt_of_cell? w _ hc
    simp only at this h1
    omega)).kept (Kept.of_grown hg)

end Go.Proofs.Ytfmcbnoldcfcbaa
