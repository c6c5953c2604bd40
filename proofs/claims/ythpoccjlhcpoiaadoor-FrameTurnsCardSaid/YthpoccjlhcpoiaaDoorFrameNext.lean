/-
  The walks through the package frame, and the document's: 'Next'.
-/
import Derived.Test.YthpoccjlhcpoiaaDoorFrameWalk
import Derived.Test.YthpoccjlhcpoiaaDoorSlots
namespace Go.Proofs.YthpoccjlhcpoiaaDoor
open Go.RowKit

/-- what 'Next' tells: the payload, the frame's bytes, what is wrong -/
def nextF (l : List UInt8) : List UInt8 × Nat × Int :=
  if l.length < 6 then ([], 0, 6) else
  if valN (l.take 2) < 1 ∨ 512 < valN (l.take 2) then ([], 0, 8) else
  if l.length < 6 + valN (l.take 2) then ([], 0, 6) else
  if sumN ((l.drop 6).take (valN (l.take 2))) ≠ valN ((l.drop 2).take 4) then ([], 0, 9) else ((l.drop 6).take (valN (l.take 2)), 6 + valN (l.take 2), 0)

def NextPost (w : World) (t : List UInt8 × Nat × Int) (r : Ending) (w' : World) : Prop :=
  ∃ a n c, r = .returned (.tuple #[.slice a n c, .int .i64 (t.2.1 : Int), .int .i64 t.2.2]) ∧ t.1.length = n ∧ RB w' a t.1 ∧ (∀ ad, a = some ad → w.heap.size ≤ ad.block) ∧ w.grownBy w' none

theorem numR_short {l : List UInt8} {k : Nat} (h1 : 1 ≤ k) (h8 : k ≤ 8) (h : l.length < k) : numR 0 l k = (0, 6, l) := by
  unfold numR takeR
  rw [if_neg (by omega), if_neg (by simp), if_pos (by rw [Int.toNat_natCast]; exact h)]
  rfl
theorem numR_long {l : List UInt8} {k : Nat} (h1 : 1 ≤ k) (h8 : k ≤ 8) (h : k ≤ l.length) : numR 0 l k = (valN (l.take k), 0, l.drop k) := by
  unfold numR takeR
  rw [if_neg (by omega), if_neg (by simp), if_neg (by rw [Int.toNat_natCast]; omega)]
  rfl
theorem short_two {l : List UInt8} (h : l.length < 6) : (numR (numR 0 l 2).2.1 (numR 0 l 2).2.2 4).2.1 = 6 := by
  by_cases h2 : l.length < 2
  · rw [show numR 0 l 2 = (0, 6, l) from numR_short (k := 2) (by decide) (by decide) h2]
    exact congrArg (fun t => t.2.1) (numR_bad (show (6 : Int) ≠ 0 by decide) l 4)
  · rw [show numR 0 l 2 = (valN (l.take 2), 0, l.drop 2) from numR_long (k := 2) (by decide) (by decide) (by omega)]
    rw [show numR 0 (l.drop 2) 4 = (0, 6, l.drop 2) from numR_short (k := 4) (by decide) (by decide) (by rw [List.length_drop]; omega)]

theorem wrap_i64 (z : Int) (h0 : 0 ≤ z) (h1 : z < 9223372036854775808) : IntKind.i64.wrap z = z := wrap_small _ (by omega) (by omega)
theorem wrap_u32 (z : Int) (h0 : 0 ≤ z) (h1 : z < 4294967296) : IntKind.u32.wrap z = z := by rw [IntKind.wrap_u32]; omega

set_option maxRecDepth 100000 in
set_option maxHeartbeats 3200000 in
theorem frame_next {X : Nat → Prop} (a : Option Addr) (n cap : Nat) (l : List UInt8) (w : World) (hs : RS w X a n cap l) (hm : n ≤ 100000) (hT : Tab w) :
    Calls Tryd.prog 11 #[.slice a n cap] w (NextPost w (nextF l)) := by
  have HS := Lib.hid hs; have HT := Lib.hid hT
  have hcap := hs.le
  clear hs hT
  by_cases h6 : n < 6
  · have hx : nextF l = ([], 0, 6) := by unfold nextF; rw [if_pos (by rw [HS.out.len]; exact h6)]
    rw [hx]
    have r1 := min_nat n 6 n (by omega) (by decide)
    have HSH := Lib.hid (short_two (l := l) (by rw [HS.out.len]; exact h6))
    go_enter Tryd.func11, Tryd.ntmps11
    go_wp2_with fail
    refine (wire_read a n _ l w HS.out.len HS.out.rx.rb (by omega)).mono ?_
    rintro r w1 ⟨g, rfl, hge, hR, hg⟩
    have HR1 := Lib.hid hR; have HG1 := Lib.hid hg; have HGE := Lib.hid hge
    clear hR hg hge
    go_wp2_with fail
    refine (wire_rnum HR1.out 2).mono ?_
    rintro r w2 ⟨rfl, hR, hg⟩
    have HR2 := Lib.hid hR; have HG2 := Lib.hid (grown_new HG1.out HGE.out hg)
    clear hR hg
    go_wp2_with fail
    refine (wire_rnum HR2.out 4).mono ?_
    rintro r w3 ⟨rfl, hR, hg⟩
    rw [HSH.out] at hR
    have HR3 := Lib.hid hR; have HG3 := Lib.hid (grown_new HG2.out HGE.out hg)
    clear hR hg
    go_wp2_with fail
    refine (wire_err HR3.out).mono ?_
    rintro r w4 ⟨rfl, rfl⟩
    go_wp2_with fail
    go_ret3
    exact ⟨none, 0, 0, rfl, rfl, RB.nil _ _, fun _ h => (by cases h), HG3.out⟩
  · have r1 := min_nat n 6 6 (by omega) (by decide)
    have h6' : (6 : Int) ≤ (n : Int) := by omega
    have h6c : (6 : Int) ≤ (cap : Int) := by omega
    have hlen : l.length = n := HS.out.len
    obtain ⟨x, hx⟩ : ∃ x, valN (l.take 2) = x := ⟨_, rfl⟩
    obtain ⟨y, hy⟩ : ∃ y, valN ((l.drop 2).take 4) = y := ⟨_, rfl⟩
    have hxlt : x < 65536 := by
      rw [← hx]
      exact Nat.lt_of_lt_of_le (valN_lt _) (Nat.le_trans (Nat.pow_le_pow_right (by decide) (show 8 * _ ≤ 16 by rw [List.length_take]; omega)) (by decide))
    have hylt : y < 4294967296 := by
      rw [← hy]
      exact Nat.lt_of_lt_of_le (valN_lt _) (Nat.le_trans (Nat.pow_le_pow_right (by decide) (show 8 * _ ≤ 32 by rw [List.length_take]; omega)) (by decide))
    have hn1 : numR 0 (l.take 6) 2 = (x, 0, (l.take 6).drop 2) := by
      rw [show numR 0 (l.take 6) 2 = (valN ((l.take 6).take 2), 0, (l.take 6).drop 2) from numR_long (k := 2) (by decide) (by decide) (by rw [List.length_take]; omega), List.take_take, ← hx]
      rfl
    have hn2 : numR 0 ((l.take 6).drop 2) 4 = (y, 0, []) := by
      rw [show numR 0 ((l.take 6).drop 2) 4 = (valN (((l.take 6).drop 2).take 4), 0, ((l.take 6).drop 2).drop 4) from numR_long (k := 4) (by decide) (by decide) (by rw [List.length_drop, List.length_take]; omega), List.drop_take, List.take_take, ← hy]
      congr 2
      exact List.eq_nil_of_length_eq_zero (by simp)
    have hnx : nextF l = if x < 1 ∨ 512 < x then ([], 0, 8) else if n < 6 + x then ([], 0, 6) else if sumN ((l.drop 6).take x) ≠ y then ([], 0, 9) else ((l.drop 6).take x, 6 + x, 0) := by
      unfold nextF
      rw [if_neg (by omega), hx, hy, hlen]
    rw [hnx]
    have HN1 := Lib.hid hn1; have HN2 := Lib.hid hn2
    have hw1 : IntKind.i64.wrap (x : Int) = (x : Int) := wrap_i64 _ (by omega) (by omega)
    have hw2 : IntKind.u32.wrap (y : Int) = (y : Int) := wrap_u32 _ (by omega) (by omega)
    have HYL := Lib.hid hylt
    clear hn1 hn2 hnx hx hy hlen hxlt hylt
    by_cases c1 : x < 1
    · rw [if_pos (.inl c1)]
      have c1' : (x : Int) < 1 := by omega
      go_enter Tryd.func11, Tryd.ntmps11
      go_wp2_with fail
      refine (wire_read a 6 _ (l.take 6) w (by rw [List.length_take, HS.out.len]; omega) (HS.out.rx.rb.take 6) (by decide)).mono ?_
      rintro r w1 ⟨g, rfl, hge, hR, hg⟩
      have HR1 := Lib.hid hR; have HG1 := Lib.hid hg; have HGE := Lib.hid hge
      clear hR hg hge
      go_wp2_with fail
      refine (wire_rnum HR1.out 2).mono ?_
      rw [HN1.out]
      rintro r w2 ⟨rfl, hR, hg⟩
      have HR2 := Lib.hid hR; have HG2 := Lib.hid (grown_new HG1.out HGE.out hg)
      clear hR hg
      go_wp2_with fail
      refine (wire_rnum HR2.out 4).mono ?_
      rw [HN2.out]
      rintro r w3 ⟨rfl, hR, hg⟩
      have HR3 := Lib.hid hR; have HG3 := Lib.hid (grown_new HG2.out HGE.out hg)
      clear hR hg HR1 HR2 HG1 HG2
      go_wp2_with fail
      refine (wire_err HR3.out).mono ?_
      rintro r w4 ⟨rfl, rfl⟩
      go_wp2_with fail
      go_ret3
      exact ⟨none, 0, 0, rfl, rfl, RB.nil _ _, fun _ h => (by cases h), HG3.out⟩
    · by_cases c2 : 512 < x
      · rw [if_pos (.inr c2)]
        have c2' : (512 : Int) < (x : Int) := by omega
        go_enter Tryd.func11, Tryd.ntmps11
        go_wp2_with fail
        refine (wire_read a 6 _ (l.take 6) w (by rw [List.length_take, HS.out.len]; omega) (HS.out.rx.rb.take 6) (by decide)).mono ?_
        rintro r w1 ⟨g, rfl, hge, hR, hg⟩
        have HR1 := Lib.hid hR; have HG1 := Lib.hid hg; have HGE := Lib.hid hge
        clear hR hg hge
        go_wp2_with fail
        refine (wire_rnum HR1.out 2).mono ?_
        rw [HN1.out]
        rintro r w2 ⟨rfl, hR, hg⟩
        have HR2 := Lib.hid hR; have HG2 := Lib.hid (grown_new HG1.out HGE.out hg)
        clear hR hg
        go_wp2_with fail
        refine (wire_rnum HR2.out 4).mono ?_
        rw [HN2.out]
        rintro r w3 ⟨rfl, hR, hg⟩
        have HR3 := Lib.hid hR; have HG3 := Lib.hid (grown_new HG2.out HGE.out hg)
        clear hR hg HR1 HR2 HG1 HG2
        go_wp2_with fail
        refine (wire_err HR3.out).mono ?_
        rintro r w4 ⟨rfl, rfl⟩
        go_wp2_with fail
        go_ret3
        exact ⟨none, 0, 0, rfl, rfl, RB.nil _ _, fun _ h => (by cases h), HG3.out⟩
      · rw [if_neg (by omega)]
        have hsub : IntKind.i64.wrap ((n : Int) - 6) = (n : Int) - 6 := wrap_small _ (by omega) (by omega)
        by_cases c3 : n < 6 + x
        · rw [if_pos c3]
          have c3' : (n : Int) - 6 < (x : Int) := by omega
          go_enter Tryd.func11, Tryd.ntmps11
          go_wp2_with fail
          refine (wire_read a 6 _ (l.take 6) w (by rw [List.length_take, HS.out.len]; omega) (HS.out.rx.rb.take 6) (by decide)).mono ?_
          rintro r w1 ⟨g, rfl, hge, hR, hg⟩
          have HR1 := Lib.hid hR; have HG1 := Lib.hid hg; have HGE := Lib.hid hge
          clear hR hg hge
          go_wp2_with fail
          refine (wire_rnum HR1.out 2).mono ?_
          rw [HN1.out]
          rintro r w2 ⟨rfl, hR, hg⟩
          have HR2 := Lib.hid hR; have HG2 := Lib.hid (grown_new HG1.out HGE.out hg)
          clear hR hg
          go_wp2_with fail
          refine (wire_rnum HR2.out 4).mono ?_
          rw [HN2.out]
          rintro r w3 ⟨rfl, hR, hg⟩
          have HR3 := Lib.hid hR; have HG3 := Lib.hid (grown_new HG2.out HGE.out hg)
          clear hR hg HR1 HR2 HG1 HG2
          go_wp2_with fail
          refine (wire_err HR3.out).mono ?_
          rintro r w4 ⟨rfl, rfl⟩
          go_wp2_with fail
          go_ret3
          exact ⟨none, 0, 0, rfl, rfl, RB.nil _ _, fun _ h => (by cases h), HG3.out⟩
        · rw [if_neg c3]
          have c3' : (x : Int) ≤ (n : Int) - 6 := by omega
          obtain ⟨p, hp⟩ : ∃ p, (l.drop 6).take x = p := ⟨_, rfl⟩
          rw [hp]
          have hpl : p.length = x := by rw [← hp, List.length_take, List.length_drop, HS.out.len]; omega
          have hrp := (HS.out.rx.drop 6).take x
          rw [hp] at hrp
          have HPL := Lib.hid hpl; have HRP := Lib.hid hrp.rb
          have m1 : (6 : Int) ≤ 6 + (x : Int) := by omega
          have m2 : 6 + (x : Int) ≤ (n : Int) := by omega
          have m3 : 6 + (x : Int) ≤ (cap : Int) := by omega
          clear hp hpl hrp
          have m0 : (6 : Int) < (cap : Int) := by omega
          by_cases c4 : sumN p = y
          · rw [if_neg (by simpa using c4)]
            have hsy : (sumF p == (y : Int)) = true := by rw [sumN_eq, c4]; simp
            go_enter Tryd.func11, Tryd.ntmps11
            go_wp2_with fail
            refine (wire_read a 6 _ (l.take 6) w (by rw [List.length_take, HS.out.len]; omega) (HS.out.rx.rb.take 6) (by decide)).mono ?_
            rintro r w1 ⟨g, rfl, hge, hR, hg⟩
            have HR1 := Lib.hid hR; have HG1 := Lib.hid hg; have HGE := Lib.hid hge
            clear hR hg hge
            go_wp2_with fail
            refine (wire_rnum HR1.out 2).mono ?_
            rw [HN1.out]
            rintro r w2 ⟨rfl, hR, hg⟩
            have HR2 := Lib.hid hR; have HG2 := Lib.hid (grown_new HG1.out HGE.out hg)
            clear hR hg
            go_wp2_with fail
            refine (wire_rnum HR2.out 4).mono ?_
            rw [HN2.out]
            rintro r w3 ⟨rfl, hR, hg⟩
            have HR3 := Lib.hid hR; have HG3 := Lib.hid (grown_new HG2.out HGE.out hg)
            clear hR hg HR1 HR2 HG1 HG2
            go_wp2_with fail
            refine (wire_err HR3.out).mono ?_
            rintro r w4 ⟨rfl, rfl⟩
            go_wp2_with (at_builtin; refine wpList_append_bytes2 (o := ⟨some 43, _, _, _, _, _⟩) rfl _ _ rfl w3.heap.size _ [] rfl (OwnB.made w3 #[] 0 (by simp [maxLen]) rfl) (Option.map (fun x => x.add 6) a) _ _ p rfl ((HRP.out.old (grown_below HG3.out)).alloc _) (by have := HPL.out; omega) (by simp; omega) (by simp) ?_)
            intro v5 w5 ho hg _
            obtain ⟨a5, n5, c5, rfl, hn5⟩ := ho.len
            have HO5 := Lib.hid (show RB w5 a5 p from RB.of_own ho); have HN5 := Lib.hid (show p.length = n5 from hn5); have HLT5 := Lib.hid ho.lt
            have HG5 := Lib.hid (grown_trans HG3.out (grown_new (World.grownBy_alloc w3 _ none) (Nat.le_refl _) hg))
            clear ho hg hn5
            go_wp2_with fail
            refine (same_any a5 n5 c5 p (y : Int) w5 HN5.out (by have := HN5.out; have := HPL.out; omega) (HT.out.grown HG5.out) HO5.out).mono ?_
            rintro r w6 ⟨rfl, rfl⟩
            go_wp2_with fail
            go_ret3
            refine ⟨a5, n5, c5, rfl, HN5.out, HO5.out, fun ad h => ?_, HG5.out⟩
            subst h
            exact Nat.le_trans HG3.out.size (HLT5.out ad.block rfl).1
          · rw [if_pos c4]
            have hsy : (sumF p == (y : Int)) = false := by rw [sumN_eq]; simp; omega
            go_enter Tryd.func11, Tryd.ntmps11
            go_wp2_with fail
            refine (wire_read a 6 _ (l.take 6) w (by rw [List.length_take, HS.out.len]; omega) (HS.out.rx.rb.take 6) (by decide)).mono ?_
            rintro r w1 ⟨g, rfl, hge, hR, hg⟩
            have HR1 := Lib.hid hR; have HG1 := Lib.hid hg; have HGE := Lib.hid hge
            clear hR hg hge
            go_wp2_with fail
            refine (wire_rnum HR1.out 2).mono ?_
            rw [HN1.out]
            rintro r w2 ⟨rfl, hR, hg⟩
            have HR2 := Lib.hid hR; have HG2 := Lib.hid (grown_new HG1.out HGE.out hg)
            clear hR hg
            go_wp2_with fail
            refine (wire_rnum HR2.out 4).mono ?_
            rw [HN2.out]
            rintro r w3 ⟨rfl, hR, hg⟩
            have HR3 := Lib.hid hR; have HG3 := Lib.hid (grown_new HG2.out HGE.out hg)
            clear hR hg HR1 HR2 HG1 HG2
            go_wp2_with fail
            refine (wire_err HR3.out).mono ?_
            rintro r w4 ⟨rfl, rfl⟩
            go_wp2_with (at_builtin; refine wpList_append_bytes2 (o := ⟨some 43, _, _, _, _, _⟩) rfl _ _ rfl w3.heap.size _ [] rfl (OwnB.made w3 #[] 0 (by simp [maxLen]) rfl) (Option.map (fun x => x.add 6) a) _ _ p rfl ((HRP.out.old (grown_below HG3.out)).alloc _) (by have := HPL.out; omega) (by simp; omega) (by simp) ?_)
            intro v5 w5 ho hg _
            obtain ⟨a5, n5, c5, rfl, hn5⟩ := ho.len
            have HO5 := Lib.hid (show RB w5 a5 p from RB.of_own ho); have HN5 := Lib.hid (show p.length = n5 from hn5); have HLT5 := Lib.hid ho.lt
            have HG5 := Lib.hid (grown_trans HG3.out (grown_new (World.grownBy_alloc w3 _ none) (Nat.le_refl _) hg))
            clear ho hg hn5
            go_wp2_with fail
            refine (same_any a5 n5 c5 p (y : Int) w5 HN5.out (by have := HN5.out; have := HPL.out; omega) (HT.out.grown HG5.out) HO5.out).mono ?_
            rintro r w6 ⟨rfl, rfl⟩
            go_wp2_with fail
            go_ret3
            exact ⟨none, 0, 0, rfl, rfl, RB.nil _ _, fun _ h => (by cases h), HG5.out⟩

end Go.Proofs.YthpoccjlhcpoiaaDoor
