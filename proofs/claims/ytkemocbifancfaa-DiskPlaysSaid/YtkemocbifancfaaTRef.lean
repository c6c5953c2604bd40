/-
  The document's tape: bytes, and the number of the first one.
-/
import Derived.Test.YtkemocbifancfaaTBytes
namespace Go.Proofs.Ytkemocbifancfaa
open Go.RowKit
set_option maxRecDepth 100000

theorem growA {w : World} : ∀ u o, w.grownBy u none → w.grownBy (u.alloc o) none := fun _ _ h => grown_trans h (World.grownBy_alloc _ _ none)
/-- a slice that reads as some bytes -/
structure SlB (w : World) (a : Option Addr) (n c : Nat) (l : List UInt8) : Prop where
  rb : RB w a l
  len : l.length = n
  cap : n ≤ c
  max : c ≤ maxLen
  shape : (a = none ∧ c = 0) ∨ ∃ b o, a = some ⟨b, o, none⟩
theorem SlB.grown {w w' : World} {a : Option Addr} {n c : Nat} {l : List UInt8} (h : SlB w a n c l) (hg : w.grownBy w' none) : SlB w' a n c l := ⟨h.rb.oldg hg, h.len, h.cap, h.max, h.shape⟩
set_option maxHeartbeats 12800000 in
theorem ref_end (a : Option Addr) (n c F s : Nat) (w : World) (hb : F + n ≤ 1099511627776) : Calls Try.prog 47 #[.agg #[.slice a n c, .int .i64 (F : Int), .int .i64 (s : Int)]] w fun r w' => r = .returned (.int .i64 ((F + n : Nat) : Int)) ∧ w.grownBy w' none := by
  have hx := (Box.new w 50 [.slice a n c, .int .i64 (F : Int), .int .i64 (s : Int)] w.heap.size rfl).look
  go_enter Try.func47, Try.ntmps47
  go_wp2_with fail
  go_ret
  exact ⟨ret_int (by push_cast; rfl), World.grownBy_alloc _ _ none⟩
set_option maxHeartbeats 12800000 in
theorem ref_new (x : Int) (w : World) : Calls Try.prog 42 #[.int .i64 x] w fun r w' => r = .returned (.agg #[.slice none 0 0, .int .i64 0, .int .i64 ((clampS x : Nat) : Int)]) ∧ w.grownBy w' none := by
  by_cases h1 : x < 64
  · have e : clampS x = 64 := if_pos h1
    rw [e]
    go_enter Try.func42, Try.ntmps42
    go_wp2_with fail
    refine bodyPost_ret (v := .agg #[.slice none 0 0, .int .i64 0, .int .i64 64]) ?_ rfl ?_
    · simp only [results]
      go_simp
    · exact ⟨rfl, World.grownBy_alloc _ _ none⟩
  · by_cases h2 : 4096 < x
    · have e : clampS x = 4096 := by unfold clampS; rw [if_neg h1, if_pos h2]
      rw [e]
      go_enter Try.func42, Try.ntmps42
      go_wp2_with fail
      refine bodyPost_ret (v := .agg #[.slice none 0 0, .int .i64 0, .int .i64 4096]) ?_ rfl ?_
      · simp only [results]
        go_simp
      · exact ⟨rfl, World.grownBy_alloc _ _ none⟩
    · have e : ((clampS x : Nat) : Int) = x := by unfold clampS; rw [if_neg h1, if_neg h2]; omega
      rw [e]
      go_enter Try.func42, Try.ntmps42
      go_wp2_with fail
      refine bodyPost_ret (v := .agg #[.slice none 0 0, .int .i64 0, .int .i64 x]) ?_ rfl ?_
      · simp only [results]
        go_simp
      · exact ⟨rfl, World.grownBy_alloc _ _ none⟩
def SegsRel (w1 : World) (s n : Nat) (cnt i : Value) (wr : World) : Prop := ∃ k : Nat, cnt = .int .i64 k ∧ i = .int .i64 ((k * s : Nat) : Int) ∧ k * s < n + s ∧ w1.grownBy wr none
set_option maxHeartbeats 12800000 in
theorem ref_segs (a : Option Addr) (n c F s : Nat) (w : World) (hs : 64 ≤ s ∧ s ≤ 4096) (hb : n ≤ 1099511627776) : Calls Try.prog 48 #[.agg #[.slice a n c, .int .i64 (F : Int), .int .i64 (s : Int)]] w fun r w' => r = .returned (.int .i64 ((nSeg s n : Nat) : Int)) ∧ w.grownBy w' none := by
  have hbx := Box.new w 50 [.slice a n c, .int .i64 (F : Int), .int .i64 (s : Int)] w.heap.size rfl
  have HG := Lib.hid (World.grownBy_alloc w (.cells #[.slice a n c, .int .i64 (F : Int), .int .i64 (s : Int)] 50) none)
  have HBX := Lib.hid hbx
  have hx := hbx.look
  clear hbx
  go_enter Try.func48, Try.ntmps48
  go_wp2_with fail
  generalize w.alloc (.cells #[.slice a n c, .int .i64 (F : Int), .int .i64 (s : Int)] 50) = w1 at *
  go_loopw [3, 4] (fun cnt i wr => SegsRel w1 s n cnt i wr) (fun _ i _ => n - (intOf i).toNat)
  case atStart => exact ⟨0, rfl, by rw [Nat.zero_mul]; rfl, by omega, World.grownBy.refl _ _⟩
  case round =>
    obtain ⟨k, rfl, rfl, hk, hg⟩ := hrel
    have hx := (HBX.out.grown hg).look
    have HGR := Lib.hid hg
    obtain ⟨p, hp⟩ : ∃ p, k * s = p := ⟨_, rfl⟩
    have hkp : k ≤ p := by rw [← hp]; exact Nat.le_mul_of_pos_right _ (by omega)
    rw [hp] at hk ⊢
    have HP := Lib.hid (fun _ : True => hp)
    clear hg hp
    by_cases hlt : p < n
    · go_wp2_with fail
      go_roundw
      all_goals first
        | (exact ⟨k + 1, by go_num, by rw [Nat.add_mul, Nat.one_mul, HP.out trivial]; go_num, by rw [Nat.add_mul, Nat.one_mul, HP.out trivial]; omega, HGR.out⟩)
        | (simp [intOf]; omega)
    · have e : nSeg s n = k := nSeg_eq (by omega) (by rw [HP.out trivial]; omega) (by rw [HP.out trivial]; exact hk)
      have HE := Lib.hid (fun _ : True => e)
      clear e
      go_wp2_with fail
      go_ret
      exact ⟨ret_int (by rw [HE.out trivial]), grown_trans HG.out HGR.out⟩
def SlPost (w : World) (l : List UInt8) (r : Ending) (w' : World) : Prop := ∃ a n c, r = .returned (.slice a n c) ∧ SlB w' a n c l ∧ w.grownBy w' none
/-- what lies from the q-th byte on -/
theorem SlB.from {w : World} {a : Option Addr} {n c : Nat} {l : List UInt8} (h : SlB w a n c l) {q : Nat} (hq : q ≤ n) {b o : Nat} (ha : a = some ⟨b, o, none⟩) : SlB w (if c = q then some ⟨b, o, none⟩ else some ⟨b, o + q, none⟩) (n - q) (c - q) (l.drop q) := by
  subst ha
  refine ⟨fun j hj => ?_, by rw [List.length_drop, h.len], by have := h.cap; omega, by have := h.max; omega, .inr ?_⟩
  · rw [List.length_drop, h.len] at hj
    obtain ⟨b', o', e, hc⟩ := h.rb (q + j) (by rw [h.len]; omega)
    cases e
    have := h.cap
    rw [if_neg (by omega)]
    exact ⟨b, o + q, rfl, by rw [List.getElem_drop, Nat.add_assoc]; exact hc⟩
  · split
    · exact ⟨_, _, rfl⟩
    · exact ⟨_, _, rfl⟩
theorem SlB.empty {w : World} : SlB w none 0 0 [] := ⟨RB.nil _ _, rfl, Nat.le_refl _, Nat.zero_le _, .inl ⟨rfl, rfl⟩⟩
def bytesG (F : Nat) (l : List UInt8) (x : Int) : List UInt8 := if ((F + l.length : Nat) : Int) ≤ x then [] else l.drop ((max x (F : Int)).toNat - F)
end Go.Proofs.Ytkemocbifancfaa
